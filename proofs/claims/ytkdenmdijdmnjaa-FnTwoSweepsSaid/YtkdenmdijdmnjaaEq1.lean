/- What each of these functions comes to on the abstract machine, one equation a function and one a loop.
Conditions: none. -/
import Derived.Test.YtkdenmdijdmnjaaTb
set_option linter.unusedVariables false
set_option maxRecDepth 100000
namespace Go.Proofs.Ytkdenmdijdmnjaa.Am
open Go Go.RowKit
noncomputable abbrev qf10 (base:Nat) (v0:Option Addr) (v0n:Nat) (h:AH):Option (Value×AH):=
(run (Et base) 22 [(vL v0 v0n)] h).bind fun r1=>
((some r1.1).bind getB).bind fun b2=>
(if b2=true then
some ((.bool true),r1.2)
else
(run (Et base) 49 [(vL v0 v0n)] r1.2).bind fun r3=>
(getTup 3 r3.1).bind fun l4=>
gG (l4[0]?) 3 fun l5=>
l_LLI l5 fun l6 l7 n8=>
((l4[1]?).bind getS).bind fun l9=>
((l4[2]?).bind getS).bind fun l10=>
nw1 r3.2 63 [(vL none 0),(vL none 0),(vI 0)] fun h11=>
(wr base h11 (List.length r3.2) 0 [(vL l6.1 l6.2),(vL l7.1 l7.2),(vI n8)]).bind fun h12=>
c_LLI h12 (List.length r3.2) 0 fun l13 l14 n15=>
(run (Et base) 46 [(.agg #[(vL l13.1 l13.2),(vL l14.1 l14.2),(vI n15)]),(vL l9.1 l9.2),(vL l10.1 l10.2)] h12).bind fun r16=>
(getTup 3 r16.1).bind fun l17=>
gG (l17[0]?) 3 fun l18=>
l_LLI l18 fun l19 l20 n21=>
((l17[1]?).bind getS).bind fun l22=>
((l17[2]?).bind getB).bind fun b23=>
nw1 r16.2 63 [(vL none 0),(vL none 0),(vI 0)] fun h24=>
(wr base h24 (List.length r16.2) 0 [(vL l19.1 l19.2),(vL l20.1 l20.2),(vI n21)]).bind fun h25=>
c_LLI h25 (List.length r16.2) 0 fun l26 l27 n28=>
(run (Et base) 46 [(.agg #[(vL l26.1 l26.2),(vL l27.1 l27.2),(vI n28)]),(vL l9.1 l9.2),(vL l22.1 l22.2)] h25).bind fun r29=>
(getTup 3 r29.1).bind fun l30=>
gG (l30[0]?) 3 fun l31=>
l_LLI l31 fun l32 l33 n34=>
((l30[1]?).bind getS).bind fun l35=>
((l30[2]?).bind getB).bind fun b36=>
nw1 r29.2 63 [(vL none 0),(vL none 0),(vI 0)] fun h37=>
(wr base h37 (List.length r29.2) 0 [(vL l32.1 l32.2),(vL l33.1 l33.2),(vI n34)]).bind fun h38=>
(if b23=true then
(if b36=true then
((cell h38 (List.length r29.2) 1).bind getS).bind fun l39=>
(if (((l39.2:Nat):Int)==(0:Int))=true then
((cell h38 (List.length r29.2) 2).bind (getI .i64)).bind fun n40=>
(if (n40==(0:Int))=true then
c_LLI h38 (List.length r29.2) 0 fun l41 l42 n43=>
c_LLI h38 (List.length r3.2) 0 fun l44 l45 n46=>
(run (Et base) 52 [(.agg #[(vL l44.1 l44.2),(vL l45.1 l45.2),(vI n46)]),(vL l9.1 l9.2),(vL l10.1 l10.2)] h38).bind fun r47=>
((some r47.1).bind getS).bind fun l48=>
(gate (sameA h38 r47.2 (some ⟨(List.length r29.2),0,none⟩) 3)
((run (Et base) 51 [(.agg #[(vL l41.1 l41.2),(vL l42.1 l42.2),(vI n43)]),(vL l9.1 l9.2),(vL l35.1 l35.2),(vL l48.1 l48.2)] r47.2).bind fun r49=>
((some r49.1).bind getB).bind fun b50=>
(if b50=true then
((cell r49.2 (List.length r29.2) 0).bind getS).bind fun l51=>
c_LL r49.2 (List.length r16.2) 0 fun l52 l53=>
some ((.bool (((l51.2:Nat):Int)==(IntKind.wrap .i64 (((l52.2:Nat):Int)+((l53.2:Nat):Int))))),r49.2)
else
some ((.bool false),r49.2))))
else
some ((.bool false),h38))
else
some ((.bool false),h38))
else
some ((.bool false),h38))
else
some ((.bool false),h38)))
theorem r10 {base:Nat} {v0:Option Addr} {v0n:Nat} {h:AH} {r:Value×AH} (hx:qf10 base v0 v0n h=some r):run (Et base) 10 [(vL v0 v0n)] h=some r:=run_i (an:=a10) Try.func10 (by kernel_rfl) (.trans (by kernel_rfl) hx)
theorem r22 {base:Nat} {v0:Option Addr} {v0n:Nat} {h:AH} {r:Value×AH} (hx:(some ((.bool (decide (((v0n:Nat):Int)>(1048576:Int)))),h))=some r):run (Et base) 22 [(vL v0 v0n)] h=some r:=run_i (an:=a22) Try.func22 (by kernel_rfl) (.trans (by kernel_rfl) hx)
theorem r38 {base:Nat} {v0_0:Option Addr} {v0_0n:Nat} {v0_1:Option Addr} {v0_1n:Nat} {v0_2:Int} {v1:Option Addr} {v1n:Nat} {v2:Option Addr} {v2n:Nat} {h:AH} {r:Value×AH} (hx:((some (h++[some ⟨[(.slice v0_0 v0_0n v0_0n),(.slice v0_1 v0_1n v0_1n),(.int .i64 v0_2)],63⟩])).bind fun h1=>
(some (h1++[some ⟨[(.slice none 0 0),(.slice none 0 0),(.int .i64 0)],63⟩])).bind fun h2=>
((cell h2 (List.length h) 0).bind getS).bind fun l3=>
((cell h2 (List.length h) 1).bind getS).bind fun l4=>
((cell h2 (List.length h) 2).bind (getI .i64)).bind fun n5=>
(run (Et base) 98 [(.agg #[(.slice l3.1 l3.2 l3.2),(.slice l4.1 l4.2 l4.2),(.int .i64 n5)]),(.slice v1 v1n v1n),(.slice v2 v2n v2n),(.bool true)] h2).bind fun r6=>
(getTup 3 r6.1).bind fun l7=>
((l7[0]?).bind (getAgg 3)).bind fun l8=>
((l8[0]?).bind getS).bind fun l9=>
((l8[1]?).bind getS).bind fun l10=>
((l8[2]?).bind (getI .i64)).bind fun n11=>
((l7[1]?).bind getS).bind fun l12=>
((l7[2]?).bind getB).bind fun b13=>
(wr base r6.2 (List.length h1) 0 [(.slice l9.1 l9.2 l9.2),(.slice l10.1 l10.2 l10.2),(.int .i64 n11)]).bind fun h14=>
((cell h14 (List.length h1) 0).bind getS).bind fun l15=>
((cell h14 (List.length h1) 1).bind getS).bind fun l16=>
((cell h14 (List.length h1) 2).bind (getI .i64)).bind fun n17=>
some ((.tuple #[(.agg #[(.slice l15.1 l15.2 l15.2),(.slice l16.1 l16.2 l16.2),(.int .i64 n17)]),(.slice l12.1 l12.2 l12.2),(.bool b13)]),h14))=some r):run (Et base) 38 [(.agg #[(vL v0_0 v0_0n),(vL v0_1 v0_1n),(vI v0_2)]),(vL v1 v1n),(vL v2 v2n)] h=some r:=run_i (an:=a38) Try.func38 (by kernel_rfl) (.trans (by kernel_rfl) hx)
theorem r45 {base:Nat} {v0_0:Option Addr} {v0_0n:Nat} {v0_1:Option Addr} {v0_1n:Nat} {v0_2:Int} {v1:Option Addr} {v1n:Nat} {v2:Option Addr} {v2n:Nat} {h:AH} {r:Value×AH} (hx:((some (h++[some ⟨[(.slice v0_0 v0_0n v0_0n),(.slice v0_1 v0_1n v0_1n),(.int .i64 v0_2)],63⟩])).bind fun h1=>
(some (h1++[some ⟨[(.slice none 0 0),(.slice none 0 0),(.int .i64 0)],63⟩])).bind fun h2=>
((cell h2 (List.length h) 0).bind getS).bind fun l3=>
((cell h2 (List.length h) 1).bind getS).bind fun l4=>
((cell h2 (List.length h) 2).bind (getI .i64)).bind fun n5=>
(run (Et base) 98 [(.agg #[(.slice l3.1 l3.2 l3.2),(.slice l4.1 l4.2 l4.2),(.int .i64 n5)]),(.slice v1 v1n v1n),(.slice v2 v2n v2n),(.bool false)] h2).bind fun r6=>
(getTup 3 r6.1).bind fun l7=>
((l7[0]?).bind (getAgg 3)).bind fun l8=>
((l8[0]?).bind getS).bind fun l9=>
((l8[1]?).bind getS).bind fun l10=>
((l8[2]?).bind (getI .i64)).bind fun n11=>
((l7[1]?).bind getS).bind fun l12=>
((l7[2]?).bind getB).bind fun b13=>
(wr base r6.2 (List.length h1) 0 [(.slice l9.1 l9.2 l9.2),(.slice l10.1 l10.2 l10.2),(.int .i64 n11)]).bind fun h14=>
((cell h14 (List.length h1) 0).bind getS).bind fun l15=>
((cell h14 (List.length h1) 1).bind getS).bind fun l16=>
((cell h14 (List.length h1) 2).bind (getI .i64)).bind fun n17=>
some ((.tuple #[(.agg #[(.slice l15.1 l15.2 l15.2),(.slice l16.1 l16.2 l16.2),(.int .i64 n17)]),(.slice l12.1 l12.2 l12.2),(.bool b13)]),h14))=some r):run (Et base) 45 [(.agg #[(vL v0_0 v0_0n),(vL v0_1 v0_1n),(vI v0_2)]),(vL v1 v1n),(vL v2 v2n)] h=some r:=run_i (an:=a45) Try.func45 (by kernel_rfl) (.trans (by kernel_rfl) hx)
theorem r46 {base:Nat} {v0_0:Option Addr} {v0_0n:Nat} {v0_1:Option Addr} {v0_1n:Nat} {v0_2:Int} {v1:Option Addr} {v1n:Nat} {v2:Option Addr} {v2n:Nat} {h:AH} {r:Value×AH} (hx:((some (h++[some ⟨[(.slice v0_0 v0_0n v0_0n),(.slice v0_1 v0_1n v0_1n),(.int .i64 v0_2)],63⟩])).bind fun h1=>
(some (h1++[some ⟨[(.slice none 0 0),(.slice none 0 0),(.int .i64 0)],63⟩])).bind fun h2=>
((cell h2 (List.length h) 0).bind getS).bind fun l3=>
((cell h2 (List.length h) 1).bind getS).bind fun l4=>
((cell h2 (List.length h) 2).bind (getI .i64)).bind fun n5=>
(run (Et base) 99 [(.agg #[(.slice l3.1 l3.2 l3.2),(.slice l4.1 l4.2 l4.2),(.int .i64 n5)]),(.slice v1 v1n v1n),(.slice v2 v2n v2n),(.bool false)] h2).bind fun r6=>
(getTup 3 r6.1).bind fun l7=>
((l7[0]?).bind (getAgg 3)).bind fun l8=>
((l8[0]?).bind getS).bind fun l9=>
((l8[1]?).bind getS).bind fun l10=>
((l8[2]?).bind (getI .i64)).bind fun n11=>
((l7[1]?).bind getS).bind fun l12=>
((l7[2]?).bind getB).bind fun b13=>
(wr base r6.2 (List.length h1) 0 [(.slice l9.1 l9.2 l9.2),(.slice l10.1 l10.2 l10.2),(.int .i64 n11)]).bind fun h14=>
((cell h14 (List.length h1) 0).bind getS).bind fun l15=>
((cell h14 (List.length h1) 1).bind getS).bind fun l16=>
((cell h14 (List.length h1) 2).bind (getI .i64)).bind fun n17=>
some ((.tuple #[(.agg #[(.slice l15.1 l15.2 l15.2),(.slice l16.1 l16.2 l16.2),(.int .i64 n17)]),(.slice l12.1 l12.2 l12.2),(.bool b13)]),h14))=some r):run (Et base) 46 [(.agg #[(vL v0_0 v0_0n),(vL v0_1 v0_1n),(vI v0_2)]),(vL v1 v1n),(vL v2 v2n)] h=some r:=run_i (an:=a46) Try.func46 (by kernel_rfl) (.trans (by kernel_rfl) hx)
theorem r49 {base:Nat} {v0:Option Addr} {v0n:Nat} {h:AH} {r:Value×AH} (hx:((some (h++[some ⟨[(.slice none 0 0),(.slice none 0 0),(.int .i64 0)],63⟩])).bind fun h1=>
(run (Et base) 78 [(.slice v0 v0n v0n)] h1).bind fun r2=>
((some r2.1).bind getP).bind fun p3=>
(run (Et base) 106 [(.pointer p3)] r2.2).bind fun r4=>
(getTup 3 r4.1).bind fun l5=>
((l5[0]?).bind (getAgg 3)).bind fun l6=>
((l6[0]?).bind getS).bind fun l7=>
((l6[1]?).bind getS).bind fun l8=>
((l6[2]?).bind (getI .i64)).bind fun n9=>
((l5[1]?).bind getS).bind fun l10=>
((l5[2]?).bind getS).bind fun l11=>
(wr base r4.2 (List.length h) 0 [(.slice l7.1 l7.2 l7.2),(.slice l8.1 l8.2 l8.2),(.int .i64 n9)]).bind fun h12=>
((cell h12 (List.length h) 0).bind getS).bind fun l13=>
((cell h12 (List.length h) 1).bind getS).bind fun l14=>
((cell h12 (List.length h) 2).bind (getI .i64)).bind fun n15=>
some ((.tuple #[(.agg #[(.slice l13.1 l13.2 l13.2),(.slice l14.1 l14.2 l14.2),(.int .i64 n15)]),(.slice l10.1 l10.2 l10.2),(.slice l11.1 l11.2 l11.2)]),h12))=some r):run (Et base) 49 [(vL v0 v0n)] h=some r:=run_i (an:=a49) Try.func49 (by kernel_rfl) (.trans (by kernel_rfl) hx)
noncomputable def B50_0 (base:Nat):Body:=fun l h=>lay s50_0 l fun s=>exCode (Et base) (run (Et base)) loopL a50_0 (subC [1,1,0,1,0,0] (bodyC Try.f50)) s h (keepK s50_0 e50_0)
theorem B50_0_eq (base:Nat) (v1:Option Addr) (v1n:Nat) (v3:Addr) (v35:Option Addr) (v35n:Nat) (v36:Int) (v37:Int) (h:AH):B50_0 base [some (vL v1 v1n),some (vA v3),some (vL v35 v35n),some (vI v36),some (vI v37)] h =
((if (decide (v37<v36))=true then
(if 0≤v37∧v37<((v35n:Nat):Int) then
((v35:Option Addr)).bind fun a1=>
((cell h a1.block (a1.off+Int.toNat v37*1)).bind (getI .i64)).bind fun n2=>
c_LLI h v3.block v3.off fun l3 l4 n5=>
(run (Et base) 108 [(.agg #[(vL l3.1 l3.2),(vL l4.1 l4.2),(vI n5)]),(vL v1 v1n),(vI n2)] h).bind fun r6=>
(getTup 2 r6.1).bind fun l7=>
gG (l7[0]?) 4 fun l8=>
l_IITL l8 fun n9 n10 s11 l12=>
((l7[1]?).bind getB).bind fun b13=>
nw1 r6.2 42 [(vI 0),(vI 0),(vT ⟨#[]⟩),(vL none 0)] fun h14=>
(wr base h14 (List.length r6.2) 0 [(vI n9),(vI n10),(vT s11),(vL l12.1 l12.2)]).bind fun h15=>
((if (!b13)=true then
some (.inl ([some (vL v1 v1n),some (vA v3),some (vL v35 v35n),some (vI v36),some (vI v37),some (.bool true)],h15))
else
(run (Et base) 109 [(vA v3),(vI n2)] h15).bind fun r17=>
((some r17.1).bind getB).bind fun b18=>
some (.inl ([some (vL v1 v1n),some (vA v3),some (vL v35 v35n),some (vI v36),some (vI v37),some (.bool (!b18))],r17.2)))).bind fun j16=>joinK j16 fun j16=>
j_LALIIB j16.1 fun l19 d20 l21 n22 n23 b24=>
(if b24=true then
some (1,[some (.bool false)],j16.2)
else
some (0,[some (vL l19.1 l19.2),some (vA d20),some (vL l21.1 l21.2),some (vI n22),some (vI (IntKind.wrap .i64 (n23+(1:Int))))],j16.2))
else none)
else
some (2,[],h)):Option (Nat×Slots×AH)):=by kernel_rfl
theorem r50 {base:Nat} {v0_0:Option Addr} {v0_0n:Nat} {v0_1:Option Addr} {v0_1n:Nat} {v0_2:Int} {v1:Option Addr} {v1n:Nat} {v2:Option Addr} {v2n:Nat} {h:AH} {r:Value×AH} (hx:(nw1 h 63 [(vL v0_0 v0_0n),(vL v0_1 v0_1n),(vI v0_2)] fun h1=>
(((cell h1 (List.length h) 0).bind getS).bind fun l3=>
(if (decide (((l3.2:Nat):Int)>(1000:Int)))=true then
some (.inl ([some (vL v1 v1n),some (vL v2 v2n),some (vP (List.length h)),some (.bool true)],h1))
else
((cell h1 (List.length h) 1).bind getS).bind fun l4=>
(if (decide (((l4.2:Nat):Int)>(1000:Int)))=true then
some (.inl ([some (vL v1 v1n),some (vL v2 v2n),some (vP (List.length h)),some (.bool true)],h1))
else
((cell h1 (List.length h) 2).bind (getI .i64)).bind fun n5=>
((cell h1 (List.length h) 1).bind getS).bind fun l6=>
(run (Et base) 83 [(vI n5),(vI (0:Int)),(vI ((l6.2:Nat):Int))] h1).bind fun r7=>
((some r7.1).bind getB).bind fun b8=>
(if (!b8)=true then
some (.inl ([some (vL v1 v1n),some (vL v2 v2n),some (vP (List.length h)),some (.bool true)],r7.2))
else
(run (Et base) 107 [(vL v1 v1n)] r7.2).bind fun r9=>
((some r9.1).bind getB).bind fun b10=>
some (.inl ([some (vL v1 v1n),some (vL v2 v2n),some (vP (List.length h)),some (.bool (!b10))],r9.2)))))).bind fun j2=>joinK j2 fun j2=>
j_LLAB j2.1 fun l11 l12 d13 b14=>
(if b14=true then
some ((.bool false),j2.2)
else
(loopL (B50_0 base) [some (vL l11.1 l11.2),some (vA d13),some (vL l12.1 l12.2),some (vI ((l12.2:Nat):Int)),some (vI (0:Int))] j2.2).bind fun q15=>
(if q15.1=1 then
((sget q15.2.1 0).bind getB).bind fun b16=>
some ((.bool b16),q15.2.2)
else
(if q15.1=2 then
some ((.bool true),q15.2.2)
else
none))))=some r):run (Et base) 50 [(.agg #[(vL v0_0 v0_0n),(vL v0_1 v0_1n),(vI v0_2)]),(vL v1 v1n),(vL v2 v2n)] h=some r:=run_i (an:=a50) Try.func50 (by kernel_rfl) (.trans (by kernel_rfl) hx)
noncomputable def B51_0 (base:Nat):Body:=fun l h=>lay s51_0 l fun s=>exCode (Et base) (run (Et base)) loopL a51_0 (subC [1,1,0,1,0,0] (bodyC Try.f51)) s h (keepK s51_0 e51_0)
theorem B51_0_eq (base:Nat) (v1:Option Addr) (v1n:Nat) (v2:Option Addr) (v2n:Nat) (v3:Option Addr) (v3n:Nat) (v4:Addr) (v9:Int) (h:AH):B51_0 base [some (vL v1 v1n),some (vL v2 v2n),some (vL v3 v3n),some (vA v4),some (vI v9)] h =
((if (decide (v9<((v2n:Nat):Int)))=true then
c_LLI h v4.block v4.off fun l1 l2 n3=>
(if 0≤v9∧v9<((v2n:Nat):Int) then
((v2:Option Addr)).bind fun a4=>
((cell h a4.block (a4.off+Int.toNat v9*1)).bind (getI .i64)).bind fun n5=>
(run (Et base) 108 [(.agg #[(vL l1.1 l1.2),(vL l2.1 l2.2),(vI n3)]),(vL v1 v1n),(vI n5)] h).bind fun r6=>
(getTup 2 r6.1).bind fun l7=>
gG (l7[0]?) 4 fun l8=>
l_IITL l8 fun n9 n10 s11 l12=>
((l7[1]?).bind getB).bind fun b13=>
(gate (neA (some ⟨a4.block,(a4.off+Int.toNat v9*1),none⟩) (List.length r6.2))
((gate (neA (some v4) (List.length r6.2))
(nw1 r6.2 42 [(vI 0),(vI 0),(vT ⟨#[]⟩),(vL none 0)] fun h14=>
(wr base h14 (List.length r6.2) 0 [(vI n9),(vI n10),(vT s11),(vL l12.1 l12.2)]).bind fun h15=>
((if (!b13)=true then
some (.inl ([some (vL v1 v1n),some (vL v2 v2n),some (vL v3 v3n),some (vA v4),some (vI v9),some (.bool true)],h15))
else
c_IITL h15 (List.length r6.2) 0 fun n17 n18 s19 l20=>
(if 0≤v9∧v9<((v3n:Nat):Int) then
((v3:Option Addr)).bind fun a21=>
c_IITL h15 a21.block (a21.off+Int.toNat v9*4) fun n22 n23 s24 l25=>
(run (Et base) 110 [(.agg #[(vI n17),(vI n18),(vT s19),(vL l20.1 l20.2)]),(.agg #[(vI n22),(vI n23),(vT s24),(vL l25.1 l25.2)])] h15).bind fun r26=>
((some r26.1).bind getB).bind fun b27=>
some (.inl ([some (vL v1 v1n),some (vL v2 v2n),some (vL v3 v3n),some (vA v4),some (vI v9),some (.bool (!b27))],r26.2))
else none))).bind fun j16=>joinK j16 fun j16=>
j_LLLAIB j16.1 fun l28 l29 l30 d31 n32 b33=>
(if b33=true then
some (1,[some (.bool false)],j16.2)
else
some (0,[some (vL l28.1 l28.2),some (vL l29.1 l29.2),some (vL l30.1 l30.2),some (vA d31),some (vI (IntKind.wrap .i64 (n32+(1:Int))))],j16.2))))))
else none)
else
some (2,[],h)):Option (Nat×Slots×AH)):=by kernel_rfl
theorem r51 {base:Nat} {v0_0:Option Addr} {v0_0n:Nat} {v0_1:Option Addr} {v0_1n:Nat} {v0_2:Int} {v1:Option Addr} {v1n:Nat} {v2:Option Addr} {v2n:Nat} {v3:Option Addr} {v3n:Nat} {h:AH} {r:Value×AH} (hx:((some (h++[some ⟨[(.slice v0_0 v0_0n v0_0n),(.slice v0_1 v0_1n v0_1n),(.int .i64 v0_2)],63⟩])).bind fun h1=>
(if (((v2n:Nat):Int) != ((v3n:Nat):Int))=true then
some ((.bool false),h1)
else
(loopL (B51_0 base) [some (.slice v1 v1n v1n),some (.slice v2 v2n v2n),some (.slice v3 v3n v3n),some (.pointer (some ⟨(List.length h),0,none⟩)),some (.int .i64 (0:Int))] h1).bind fun q2=>
(if q2.1=1 then
((sget q2.2.1 0).bind getB).bind fun b3=>
some ((.bool b3),q2.2.2)
else
(if q2.1=2 then
some ((.bool true),q2.2.2)
else
none))))=some r):run (Et base) 51 [(.agg #[(vL v0_0 v0_0n),(vL v0_1 v0_1n),(vI v0_2)]),(vL v1 v1n),(vL v2 v2n),(vL v3 v3n)] h=some r:=run_i (an:=a51) Try.func51 (by kernel_rfl) (.trans (by kernel_rfl) hx)
noncomputable def B52_0 (base:Nat):Body:=fun l h=>lay s52_0 l fun s=>exCode (Et base) (run (Et base)) loopL a52_0 (subC [1,1,0,1,0,0] (bodyC Try.f52)) s h (keepK s52_0 e52_0)
theorem B52_0_eq (base:Nat) (v1:Option Addr) (v1n:Nat) (v2:Option Addr) (v2n:Nat) (v3:Addr) (v7:Option Addr) (v7n:Nat) (v8:Int) (h:AH):B52_0 base [some (vL v1 v1n),some (vL v2 v2n),some (vA v3),some (vL v7 v7n),some (vI v8)] h =
((if (decide (v8<((v2n:Nat):Int)))=true then
c_LLI h v3.block v3.off fun l1 l2 n3=>
(if 0≤v8∧v8<((v2n:Nat):Int) then
((v2:Option Addr)).bind fun a4=>
((cell h a4.block (a4.off+Int.toNat v8*1)).bind (getI .i64)).bind fun n5=>
(run (Et base) 111 [(.agg #[(vL l1.1 l1.2),(vL l2.1 l2.2),(vI n3)]),(vL v1 v1n),(vI n5)] h).bind fun r6=>
(getTup 2 r6.1).bind fun l7=>
gG (l7[0]?) 4 fun l8=>
l_IITL l8 fun n9 n10 s11 l12=>
((l7[1]?).bind getB).bind fun b13=>
(gate (neA (some ⟨a4.block,(a4.off+Int.toNat v8*1),none⟩) (List.length r6.2))
((gate (neA (some v3) (List.length r6.2))
(nw1 r6.2 42 [(vI 0),(vI 0),(vT ⟨#[]⟩),(vL none 0)] fun h14=>
(wr base h14 (List.length r6.2) 0 [(vI n9),(vI n10),(vT s11),(vL l12.1 l12.2)]).bind fun h15=>
c_IITL h15 (List.length r6.2) 0 fun n16 n17 s18 l19=>
nw1 h15 42 [(vI n16),(vI n17),(vT s18),(vL l19.1 l19.2)] fun h20=>
(app base h20 42 4 56 v7 v7n (rawAt h20 (some ⟨(List.length h15),0,none⟩) (1*4)) 1).bind fun p21=>
((some p21.1).bind getS).bind fun l22=>
some (0,[some (vL v1 v1n),some (vL v2 v2n),some (vA v3),some (vL l22.1 l22.2),some (vI (IntKind.wrap .i64 (v8+(1:Int))))],p21.2)))))
else none)
else
some (2,[some (vL v7 v7n)],h)):Option (Nat×Slots×AH)):=by kernel_rfl
theorem r52 {base:Nat} {v0_0:Option Addr} {v0_0n:Nat} {v0_1:Option Addr} {v0_1n:Nat} {v0_2:Int} {v1:Option Addr} {v1n:Nat} {v2:Option Addr} {v2n:Nat} {h:AH} {r:Value×AH} (hx:((some (h++[some ⟨[(.slice v0_0 v0_0n v0_0n),(.slice v0_1 v0_1n v0_1n),(.int .i64 v0_2)],63⟩])).bind fun h1=>
(some (h1++[some ⟨[],42⟩])).bind fun h2=>
(loopL (B52_0 base) [some (.slice v1 v1n v1n),some (.slice v2 v2n v2n),some (.pointer (some ⟨(List.length h),0,none⟩)),some (.slice (some ⟨(List.length h1),0,none⟩) 0 0),some (.int .i64 (0:Int))] h2).bind fun q3=>
(if q3.1=2 then
((sget q3.2.1 0).bind getS).bind fun l4=>
some ((.slice l4.1 l4.2 l4.2),q3.2.2)
else
none))=some r):run (Et base) 52 [(.agg #[(vL v0_0 v0_0n),(vL v0_1 v0_1n),(vI v0_2)]),(vL v1 v1n),(vL v2 v2n)] h=some r:=run_i (an:=a52) Try.func52 (by kernel_rfl) (.trans (by kernel_rfl) hx)
theorem r58 {base:Nat} {v0_0:Int} {v0_1:Int} {v0_2:ByteArray} {v0_3:Option Addr} {v0_3n:Nat} {h:AH} {r:Value×AH} (hx:((some (h++[some ⟨[(.int .i64 v0_0),(.int .i64 v0_1),(.string v0_2),(.slice v0_3 v0_3n v0_3n)],42⟩])).bind fun h1=>
((cell h1 (List.length h) 0).bind (getI .i64)).bind fun n2=>
((cell h1 (List.length h) 1).bind (getI .i64)).bind fun n3=>
((cell h1 (List.length h) 2).bind getStr).bind fun s4=>
((cell h1 (List.length h) 3).bind getS).bind fun l5=>
(run (Et base) 117 [(.agg #[(.int .i64 n2),(.int .i64 n3),(.string s4),(.slice l5.1 l5.2 l5.2)]),(.int .i64 (6:Int)),(.int .i64 (100:Int))] h1).bind fun r6=>
((some r6.1).bind (getI .i64)).bind fun n7=>
some ((.bool (decide (n7≥(0:Int)))),r6.2))=some r):run (Et base) 58 [(.agg #[(vI v0_0),(vI v0_1),(vT v0_2),(vL v0_3 v0_3n)])] h=some r:=run_i (an:=a58) Try.func58 (by kernel_rfl) (.trans (by kernel_rfl) hx)
theorem r65 {base:Nat} {v0_0:Int} {v0_1:Int} {v0_2:ByteArray} {v0_3:Option Addr} {v0_3n:Nat} {h:AH} {r:Value×AH} (hx:((some (h++[some ⟨[(.int .i64 v0_0),(.int .i64 v0_1),(.string v0_2),(.slice v0_3 v0_3n v0_3n)],42⟩])).bind fun h1=>
((cell h1 (List.length h) 0).bind (getI .i64)).bind fun n2=>
((cell h1 (List.length h) 1).bind (getI .i64)).bind fun n3=>
((cell h1 (List.length h) 2).bind getStr).bind fun s4=>
((cell h1 (List.length h) 3).bind getS).bind fun l5=>
(run (Et base) 124 [(.agg #[(.int .i64 n2),(.int .i64 n3),(.string s4),(.slice l5.1 l5.2 l5.2)]),(.int .i64 (1:Int)),(.int .i64 (0:Int))] h1).bind fun r6=>
(getTup 2 r6.1).bind fun l7=>
((l7[0]?).bind (getI .i64)).bind fun n8=>
((l7[1]?).bind getB).bind fun b9=>
some ((.bool b9),r6.2))=some r):run (Et base) 65 [(.agg #[(vI v0_0),(vI v0_1),(vT v0_2),(vL v0_3 v0_3n)])] h=some r:=run_i (an:=a65) Try.func65 (by kernel_rfl) (.trans (by kernel_rfl) hx)
noncomputable def B78_0 (base:Nat):Body:=fun l h=>lay s78_0 l fun s=>exCode (Et base) (run (Et base)) loopL a78_0 (subC [1,1,0,1,0,0] (bodyC Try.f78)) s h (keepK s78_0 e78_0)
theorem B78_0_eq (base:Nat) (v0:Option Addr) (v0n:Nat) (v3:Int) (v4:Int) (h:AH):B78_0 base [some (vL v0 v0n),some (vI v3),some (vI v4)] h =
(((if (decide (v4<((v0n:Nat):Int)))=true then
some (.inl ([some (.slice v0 v0n v0n),some (.int .i64 v3),some (.int .i64 v4),some (.bool (decide (v4<(4000:Int))))],h))
else
some (.inl ([some (.slice v0 v0n v0n),some (.int .i64 v3),some (.int .i64 v4),some (.bool false)],h)))).bind fun j1=>joinK j1 fun j1=>
((sget j1.1 0).bind getS).bind fun l2=>
((sget (j1.1.tail) 0).bind (getI .i64)).bind fun n3=>
((sget (j1.1.tail.tail) 0).bind (getI .i64)).bind fun n4=>
((sget (j1.1.tail.tail.tail) 0).bind getB).bind fun b5=>
(if b5=true then
(if 0≤n4∧n4<((l2.2:Nat):Int) then
((l2.1:Option Addr)).bind fun a6=>
((cell j1.2 a6.block (a6.off+Int.toNat n4*1)).bind (getI .u8)).bind fun n7=>
some (0,[some (.slice l2.1 l2.2 l2.2),some (.int .i64 (Go.bits .and .i64 (IntKind.wrap .i64 ((IntKind.wrap .i64 ((IntKind.wrap .i64 (n3*(137:Int)))+(IntKind.wrap .i64 n7)))+(11:Int))) (1073741823:Int))),some (.int .i64 (IntKind.wrap .i64 (n4+(1:Int))))],j1.2)
else none)
else
some (2,[some (.slice l2.1 l2.2 l2.2),some (.int .i64 n3)],j1.2)):Option (Nat×Slots×AH)):=by kernel_rfl
theorem r78 {base:Nat} {v0:Option Addr} {v0n:Nat} {h:AH} {r:Value×AH} (hx:((loopL (B78_0 base) [some (.slice v0 v0n v0n),some (.int .i64 (IntKind.wrap .i64 ((384384:Int)+((v0n:Nat):Int)))),some (.int .i64 (0:Int))] h).bind fun q1=>
(if q1.1=2 then
((sget q1.2.1 0).bind getS).bind fun l2=>
((sget (q1.2.1.tail) 0).bind (getI .i64)).bind fun n3=>
(some (q1.2.2++[some ⟨[(.slice l2.1 l2.2 l2.2),(.int .i64 (0:Int)),(.int .i64 n3)],154⟩])).bind fun h4=>
some ((.pointer (some ⟨(List.length q1.2.2),0,none⟩)),h4)
else
none))=some r):run (Et base) 78 [(vL v0 v0n)] h=some r:=run_i (an:=a78) Try.func78 (by kernel_rfl) (.trans (by kernel_rfl) hx)
theorem r83 {base:Nat} {v0:Int} {v1:Int} {v2:Int} {h:AH} {r:Value×AH} (hx:((if (decide (v0≥v1))=true then
some ((.bool (decide (v0≤v2))),h)
else
some ((.bool false),h)))=some r):run (Et base) 83 [(vI v0),(vI v1),(vI v2)] h=some r:=run_i (an:=a83) Try.func83 (by kernel_rfl) (.trans (by kernel_rfl) hx)
theorem r90 {base:Nat} {v0:Int} {v1:Int} {v2:Int} {h:AH} {r:Value×AH} (hx:((if (decide (v0≥v1))=true then
some ((.bool (decide (v0≤v2))),h)
else
some ((.bool false),h)))=some r):run (Et base) 90 [(vI v0),(vI v1),(vI v2)] h=some r:=run_i (an:=a90) Try.func90 (by kernel_rfl) (.trans (by kernel_rfl) hx)
noncomputable def B95_0 (base:Nat):Body:=fun l h=>lay s95_0 l fun s=>exCode (Et base) (run (Et base)) loopL a95_0 (subC [1,1,0,1,0,0] (bodyC Try.f95)) s h (keepK s95_0 e95_0)
theorem B95_0_eq (base:Nat) (v1:Option Addr) (v1n:Nat) (v2:Option Addr) (v2n:Nat) (v3:Addr) (v7:Int) (h:AH):B95_0 base [some (vL v1 v1n),some (vL v2 v2n),some (vA v3),some (vI v7)] h =
((if (decide (v7<((v2n:Nat):Int)))=true then
c_LLI h v3.block v3.off fun l1 l2 n3=>
(if 0≤v7∧v7<((v2n:Nat):Int) then
((v2:Option Addr)).bind fun a4=>
((cell h a4.block (a4.off+Int.toNat v7*1)).bind (getI .i64)).bind fun n5=>
(run (Et base) 111 [(.agg #[(vL l1.1 l1.2),(vL l2.1 l2.2),(vI n3)]),(vL v1 v1n),(vI n5)] h).bind fun r6=>
(getTup 2 r6.1).bind fun l7=>
gG (l7[0]?) 4 fun l8=>
l_IITL l8 fun n9 n10 s11 l12=>
((l7[1]?).bind getB).bind fun b13=>
(gate (neA (some ⟨a4.block,(a4.off+Int.toNat v7*1),none⟩) (List.length r6.2))
((gate (neA (some v3) (List.length r6.2))
(nw1 r6.2 42 [(vI 0),(vI 0),(vT ⟨#[]⟩),(vL none 0)] fun h14=>
(wr base h14 (List.length r6.2) 0 [(vI n9),(vI n10),(vT s11),(vL l12.1 l12.2)]).bind fun h15=>
((if (!b13)=true then
some (.inl ([some (vL v1 v1n),some (vL v2 v2n),some (vA v3),some (vI v7),some (.bool true)],h15))
else
c_LLI h15 v3.block v3.off fun l17 l18 n19=>
(if 0≤v7∧v7<((v2n:Nat):Int) then
((v2:Option Addr)).bind fun a20=>
((cell h15 a20.block (a20.off+Int.toNat v7*1)).bind (getI .i64)).bind fun n21=>
(run (Et base) 145 [(.agg #[(vL l17.1 l17.2),(vL l18.1 l18.2),(vI n19)]),(vI n21),(vI (200000:Int))] h15).bind fun r22=>
((some r22.1).bind getB).bind fun b23=>
some (.inl ([some (vL v1 v1n),some (vL v2 v2n),some (vA v3),some (vI v7),some (.bool (!b23))],r22.2))
else none))).bind fun j16=>joinK j16 fun j16=>
j_LLAIB j16.1 fun l24 l25 d26 n27 b28=>
(if b28=true then
some (1,[some (.bool false)],j16.2)
else
some (0,[some (vL l24.1 l24.2),some (vL l25.1 l25.2),some (vA d26),some (vI (IntKind.wrap .i64 (n27+(1:Int))))],j16.2))))))
else none)
else
some (2,[],h)):Option (Nat×Slots×AH)):=by kernel_rfl
theorem r95 {base:Nat} {v0_0:Option Addr} {v0_0n:Nat} {v0_1:Option Addr} {v0_1n:Nat} {v0_2:Int} {v1:Option Addr} {v1n:Nat} {v2:Option Addr} {v2n:Nat} {h:AH} {r:Value×AH} (hx:(nw1 h 63 [(vL v0_0 v0_0n),(vL v0_1 v0_1n),(vI v0_2)] fun h1=>
(((cell h1 (List.length h) 0).bind getS).bind fun l3=>
(if (decide (((l3.2:Nat):Int)>(1000:Int)))=true then
some (.inl ([some (vL v1 v1n),some (vL v2 v2n),some (vP (List.length h)),some (.bool true)],h1))
else
((cell h1 (List.length h) 1).bind getS).bind fun l4=>
(if (decide (((l4.2:Nat):Int)>(1000:Int)))=true then
some (.inl ([some (vL v1 v1n),some (vL v2 v2n),some (vP (List.length h)),some (.bool true)],h1))
else
((cell h1 (List.length h) 2).bind (getI .i64)).bind fun n5=>
((cell h1 (List.length h) 1).bind getS).bind fun l6=>
(run (Et base) 90 [(vI n5),(vI (0:Int)),(vI ((l6.2:Nat):Int))] h1).bind fun r7=>
((some r7.1).bind getB).bind fun b8=>
(if (!b8)=true then
some (.inl ([some (vL v1 v1n),some (vL v2 v2n),some (vP (List.length h)),some (.bool true)],r7.2))
else
(run (Et base) 144 [(vL v1 v1n)] r7.2).bind fun r9=>
((some r9.1).bind getB).bind fun b10=>
some (.inl ([some (vL v1 v1n),some (vL v2 v2n),some (vP (List.length h)),some (.bool (!b10))],r9.2)))))).bind fun j2=>joinK j2 fun j2=>
j_LLAB j2.1 fun l11 l12 d13 b14=>
(if b14=true then
some ((.bool false),j2.2)
else
(loopL (B95_0 base) [some (vL l11.1 l11.2),some (vL l12.1 l12.2),some (vA d13),some (vI (0:Int))] j2.2).bind fun q15=>
(if q15.1=1 then
((sget q15.2.1 0).bind getB).bind fun b16=>
some ((.bool b16),q15.2.2)
else
(if q15.1=2 then
some ((.bool true),q15.2.2)
else
none))))=some r):run (Et base) 95 [(.agg #[(vL v0_0 v0_0n),(vL v0_1 v0_1n),(vI v0_2)]),(vL v1 v1n),(vL v2 v2n)] h=some r:=run_i (an:=a95) Try.func95 (by kernel_rfl) (.trans (by kernel_rfl) hx)
noncomputable def B96_0 (base:Nat):Body:=fun l h=>lay s96_0 l fun s=>exCode (Et base) (run (Et base)) loopL a96_0 (subC [1,1,1,1,0,1,0,0] (bodyC Try.f96)) s h (keepK s96_0 e96_0)
theorem B96_0_eq (base:Nat) (v1:Option Addr) (v1n:Nat) (v2:Bool) (v6:Addr) (v8:Addr) (v9:Option Addr) (v9n:Nat) (v10:Int) (h:AH):B96_0 base [some (vL v1 v1n),some (.bool v2),some (vA v6),some (vA v8),some (vL v9 v9n),some (vI v10)] h =
((if (decide (v10<((v1n:Nat):Int)))=true then
(if 0≤v10∧v10<((v1n:Nat):Int) then
((v1:Option Addr)).bind fun a1=>
((cell h a1.block (a1.off+Int.toNat v10*1)).bind (getI .i64)).bind fun n2=>
(run (Et base) 147 [(.pointer (some v8)),(.int .i64 n2)] h).bind fun r3=>
((some r3.1).bind (getI .i64)).bind fun n4=>
(some (r3.2++[some ⟨[(.int .i64 n4)],3⟩])).bind fun h5=>
(app base h5 3 1 8 v9 v9n (rawAt h5 (some ⟨(List.length r3.2),0,none⟩) (1*1)) 1).bind fun p6=>
((some p6.1).bind getS).bind fun l7=>
some (0,[some (.slice v1 v1n v1n),some (.bool v2),some (.pointer (some v6)),some (.pointer (some v8)),some (.slice l7.1 l7.2 l7.2),some (.int .i64 (IntKind.wrap .i64 (v10+(1:Int))))],p6.2)
else none)
else
some (2,[some (.bool v2),some (.pointer (some v6)),some (.pointer (some v8)),some (.slice v9 v9n v9n)],h)):Option (Nat×Slots×AH)):=by kernel_rfl
noncomputable abbrev qf96 (base:Nat) (v0_0:Option Addr) (v0_0n:Nat) (v0_1:Option Addr) (v0_1n:Nat) (v0_2:Int) (v1:Option Addr) (v1n:Nat) (v2:Bool) (h:AH):Option (Value×AH):=
nw1 h 63 [(vL v0_0 v0_0n),(vL v0_1 v0_1n),(vI v0_2)] fun h1=>
nw1 h1 63 [(vL none 0),(vL none 0),(vI 0)] fun h2=>
c_LLI h2 (List.length h) 0 fun l3 l4 n5=>
((cell h2 (List.length h) 0).bind getS).bind fun l6=>
(run (Et base) 146 [(vI ((l6.2:Nat):Int))] h2).bind fun r7=>
((some r7.1).bind getS).bind fun l8=>
(gate (sameA h2 r7.2 (some ⟨(List.length h),0,none⟩) 3)
((gate (sameA h2 r7.2 (some ⟨(List.length h),1,none⟩) 1)
(((cell r7.2 (List.length h) 1).bind getS).bind fun l9=>
(run (Et base) 146 [(vI ((l9.2:Nat):Int))] r7.2).bind fun r10=>
((some r10.1).bind getS).bind fun l11=>
(gate (sameA r7.2 r10.2 (some ⟨(List.length h),0,none⟩) 3)
(nw1 r10.2 168 [(vL l3.1 l3.2),(vL l4.1 l4.2),(vI n5),(vL none 0),(vL none 0),(vI (0:Int)),(vL l8.1 l8.2),(vL l11.1 l11.2),(.bool v2)] fun h12=>
((if (!v2)=true then
nw1 h12 3 [] fun h14=>
((cell h14 (List.length h) 0).bind getS).bind fun l15=>
(app base h14 3 1 8 (some ⟨(List.length h12),0,none⟩) 0 (rawAt h14 l15.1 (l15.2*1)) l15.2).bind fun p16=>
((some p16.1).bind getS).bind fun l17=>
(wr base p16.2 (List.length r10.2) 3 [(vL l17.1 l17.2)]).bind fun h18=>
some (.inl ([some (vL v1 v1n),some (.bool v2),some (vP (List.length h1)),some (vP (List.length r10.2))],h18))
else
some (.inl ([some (vL v1 v1n),some (.bool v2),some (vP (List.length h1)),some (vP (List.length r10.2))],h12)))).bind fun j13=>joinK j13 fun j13=>
j_LBAA j13.1 fun l19 b20 d21 d22=>
nw1 j13.2 3 [] fun h23=>
(loopL (B96_0 base) [some (vL l19.1 l19.2),some (.bool b20),some (vA d21),some (vA d22),some (vL (some ⟨(List.length j13.2),0,none⟩) 0),some (vI (0:Int))] h23).bind fun q24=>
(if q24.1=2 then
j_BAAL q24.2.1 fun b25 d26 d27 l28=>
((if (!b25)=true then
((cell q24.2.2 d27.block ((d27.off+3)+1)).bind getS).bind fun l30=>
(wr base q24.2.2 d27.block ((d27.off+3)+2) [(vI ((l30.2:Nat):Int))]).bind fun h31=>
some (.inl ([some (vA d26),some (vA d27),some (vL l28.1 l28.2)],h31))
else
some (.inl ([some (vA d26),some (vA d27),some (vL l28.1 l28.2)],q24.2.2)))).bind fun j29=>joinK j29 fun j29=>
j_AAL j29.1 fun d32 d33 l34=>
c_LLI j29.2 d33.block (d33.off+3) fun l35 l36 n37=>
(wr base j29.2 d32.block d32.off [(vL l35.1 l35.2),(vL l36.1 l36.2),(vI n37)]).bind fun h38=>
c_LLI h38 d32.block d32.off fun l39 l40 n41=>
some ((.tuple #[(.agg #[(vL l39.1 l39.2),(vL l40.1 l40.2),(vI n41)]),(vL l34.1 l34.2)]),h38)
else
none)))))))
theorem r96 {base:Nat} {v0_0:Option Addr} {v0_0n:Nat} {v0_1:Option Addr} {v0_1n:Nat} {v0_2:Int} {v1:Option Addr} {v1n:Nat} {v2:Bool} {h:AH} {r:Value×AH} (hx:qf96 base v0_0 v0_0n v0_1 v0_1n v0_2 v1 v1n v2 h=some r):run (Et base) 96 [(.agg #[(vL v0_0 v0_0n),(vL v0_1 v0_1n),(vI v0_2)]),(vL v1 v1n),(.bool v2)] h=some r:=run_i (an:=a96) Try.func96 (by kernel_rfl) (.trans (by kernel_rfl) hx)
noncomputable def B97_0 (base:Nat):Body:=fun l h=>lay s97_0 l fun s=>exCode (Et base) (run (Et base)) loopL a97_0 (subC [1,1,1,1,1,1,1,1,1,1,1,1,0,1,0,0] (bodyC Try.f97)) s h (keepK s97_0 e97_0)
theorem B97_0_eq (base:Nat) (v0:Option Addr) (v1:Int) (v9:Int) (v10:Bool) (v12:Int) (v110:Int) (v111:Int) (h:AH):B97_0 base [some (.pointer v0),some (vI v1),some (vI v9),some (.bool v10),some (vI v12),some (vI v110),some (vI v111)] h =
((if (decide (v111<v110))=true then
(v0).bind fun a1=>
(run (Et base) 149 [(vI v1)] h).bind fun r2=>
((some r2.1).bind (getI .i64)).bind fun n3=>
(run (Et base) 154 [(.pointer (some ⟨a1.block,(a1.off+0),none⟩)),(vI (IntKind.wrap .i64 (n3+v111)))] r2.2).bind fun r4=>
(getTup 2 r4.1).bind fun l5=>
l_IB l5 fun n6 b7=>
(((run (Et base) 152 [(vI v1)] r4.2).bind fun r10=>
((some r10.1).bind (getI .i64)).bind fun n11=>
(if (n11==(5:Int))=true then
some (.inl ([some (.pointer v0),some (vI v1),some (vI v9),some (.bool v10),some (vI v12),some (vI v111),some (vI n6),some (vI v110),some (vI v111),some (.bool true)],r10.2))
else
(run (Et base) 152 [(vI v1)] r10.2).bind fun r12=>
((some r12.1).bind (getI .i64)).bind fun n13=>
(if (n13==(4:Int))=true then
some (.inl ([some (.pointer v0),some (vI v1),some (vI v9),some (.bool v10),some (vI v12),some (vI v111),some (vI n6),some (vI v110),some (vI v111),some (.bool (decide (v111>(0:Int))))],r12.2))
else
some (.inl ([some (.pointer v0),some (vI v1),some (vI v9),some (.bool v10),some (vI v12),some (vI v111),some (vI n6),some (vI v110),some (vI v111),some (.bool false)],r12.2))))).bind fun j9=>joinK j9 fun j9=>
j_PIIBIIIIIB j9.1 fun p14 n15 n16 b17 n18 n19 n20 n21 n22 b23=>
(if b23=true then
(run (Et base) 97 [(.pointer p14),(vI n20)] j9.2).bind fun r24=>
((some r24.1).bind (getI .i64)).bind fun n25=>
some (.inl ([some (.pointer p14),some (vI n15),some (vI n16),some (.bool b17),some (vI n18),some (vI n19),some (vI n25),some (vI n21),some (vI n22)],r24.2))
else
some (.inl ([some (.pointer p14),some (vI n15),some (vI n16),some (.bool b17),some (vI n18),some (vI n19),some (vI n20),some (vI n21),some (vI n22)],j9.2)))).bind fun j8=>joinK j8 fun j8=>
j_PIIBIIIII j8.1 fun p26 n27 n28 b29 n30 n31 n32 n33 n34=>
(if b29=true then
(p26).bind fun a35=>
((cell j8.2 a35.block (a35.off+4)).bind getS).bind fun l36=>
(if 0≤(IntKind.wrap .i64 (n28+n31))∧(IntKind.wrap .i64 (n28+n31))<((l36.2:Nat):Int) then
((l36.1:Option Addr)).bind fun a37=>
(wr base j8.2 a37.block (a37.off+Int.toNat (IntKind.wrap .i64 (n28+n31))*1) [(vI n32)]).bind fun h38=>
some (0,[some (.pointer p26),some (vI n27),some (vI n28),some (.bool b29),some (vI n30),some (vI n33),some (vI (IntKind.wrap .i64 (n34+(1:Int))))],h38)
else none)
else
(p26).bind fun a39=>
((cell j8.2 a39.block (a39.off+5)).bind getS).bind fun l40=>
(if 0≤(IntKind.wrap .i64 (n28+n31))∧(IntKind.wrap .i64 (n28+n31))<((l40.2:Nat):Int) then
((l40.1:Option Addr)).bind fun a41=>
(wr base j8.2 a41.block (a41.off+Int.toNat (IntKind.wrap .i64 (n28+n31))*1) [(vI n32)]).bind fun h42=>
some (0,[some (.pointer p26),some (vI n27),some (vI n28),some (.bool b29),some (vI n30),some (vI n33),some (vI (IntKind.wrap .i64 (n34+(1:Int))))],h42)
else none))
else
some (2,[some (vI v12)],h)):Option (Nat×Slots×AH)):=by kernel_rfl
noncomputable abbrev qf97 (base:Nat) (v0:Option Addr) (v1:Int) (h:AH):Option (Value×AH):=
(v0).bind fun a1=>
(run (Et base) 149 [(vI v1)] h).bind fun r2=>
((some r2.1).bind (getI .i64)).bind fun n3=>
(run (Et base) 148 [(.pointer (some ⟨a1.block,(a1.off+0),none⟩)),(vI n3)] r2.2).bind fun r4=>
((some r4.1).bind (getI .i64)).bind fun n5=>
((run (Et base) 150 [(vI v1)] r4.2).bind fun r7=>
((some r7.1).bind getB).bind fun b8=>
(if (!b8)=true then
some (.inl ([some (.pointer v0),some (vI v1),some (vI n5),some (.bool true)],r7.2))
else
(if (n5==(0:Int))=true then
(v0).bind fun a9=>
((cell r7.2 a9.block (a9.off+3)).bind getB).bind fun b10=>
some (.inl ([some (.pointer v0),some (vI v1),some (vI n5),some (.bool (!b10))],r7.2))
else
some (.inl ([some (.pointer v0),some (vI v1),some (vI n5),some (.bool false)],r7.2))))).bind fun j6=>joinK j6 fun j6=>
j_PIIB j6.1 fun p11 n12 n13 b14=>
(if b14=true then
some ((vI n12),j6.2)
else
(p11).bind fun a15=>
((cell j6.2 a15.block (a15.off+6)).bind getM).bind fun m16=>
(run (Et base) 149 [(vI n12)] j6.2).bind fun r17=>
((some r17.1).bind (getI .i64)).bind fun n18=>
(gate (sameA j6.2 r17.2 (some ⟨a15.block,(a15.off+6),none⟩) 1)
((mget r17.2 m16).bind fun w19=>
(if (mfind w19 n18).isSome=true then
(run (Et base) 152 [(vI n12)] r17.2).bind fun r20=>
((some r20.1).bind (getI .i64)).bind fun n21=>
(run (Et base) 151 [(vI n21),(vI ((mfind w19 n18).getD 0))] r20.2).bind fun r22=>
((some r22.1).bind (getI .i64)).bind fun n23=>
some ((vI n23),r22.2)
else
(p11).bind fun a24=>
(run (Et base) 153 [(.pointer (some ⟨a24.block,(a24.off+0),none⟩)),(vI n12)] r17.2).bind fun r25=>
((some r25.1).bind (getI .i64)).bind fun n26=>
((p11).bind fun a28=>
((cell r25.2 a28.block (a28.off+3)).bind getB).bind fun b29=>
(if b29=true then
some (.inl ([some (.pointer p11),some (vI n12),some (vI n26),some (.bool true)],r25.2))
else
some (.inl ([some (.pointer p11),some (vI n12),some (vI n26),some (.bool (n13==(1:Int)))],r25.2)))).bind fun j27=>joinK j27 fun j27=>
j_PIIB j27.1 fun p30 n31 n32 b33=>
((if b33=true then
(p30).bind fun a35=>
((cell j27.2 a35.block (a35.off+4)).bind getS).bind fun l36=>
(p30).bind fun a37=>
((cell j27.2 a37.block (a37.off+4)).bind getS).bind fun l38=>
(if 0≤n32∧n32≤140737488355328 then
(app base j27.2 3 1 8 l38.1 l38.2 (some (rep [(vI 0)] (Int.toNat n32))) (Int.toNat n32)).bind fun p39=>
((some p39.1).bind getS).bind fun l40=>
(p30).bind fun a41=>
(wr base p39.2 a41.block (a41.off+4) [(vL l40.1 l40.2)]).bind fun h42=>
some (.inl ([some (.pointer p30),some (vI n31),some (vI n32),some (vI ((l36.2:Nat):Int)),some (.bool b33)],h42))
else none)
else
(p30).bind fun a43=>
((cell j27.2 a43.block (a43.off+5)).bind getS).bind fun l44=>
(p30).bind fun a45=>
((cell j27.2 a45.block (a45.off+5)).bind getS).bind fun l46=>
(if 0≤n32∧n32≤140737488355328 then
(app base j27.2 3 1 8 l46.1 l46.2 (some (rep [(vI 0)] (Int.toNat n32))) (Int.toNat n32)).bind fun p47=>
((some p47.1).bind getS).bind fun l48=>
(p30).bind fun a49=>
(wr base p47.2 a49.block (a49.off+5) [(vL l48.1 l48.2)]).bind fun h50=>
some (.inl ([some (.pointer p30),some (vI n31),some (vI n32),some (vI ((l44.2:Nat):Int)),some (.bool b33)],h50))
else none))).bind fun j34=>joinK j34 fun j34=>
j_PIIIB j34.1 fun p51 n52 n53 n54 b55=>
((if (!b55)=true then
some (.inl ([some (.pointer p51),some (vI n52),some (vI n53),some (vI n54),some (.bool b55),some (vI (IntKind.wrap .i64 (n54+(100000:Int))))],j34.2))
else
some (.inl ([some (.pointer p51),some (vI n52),some (vI n53),some (vI n54),some (.bool b55),some (vI n54)],j34.2)))).bind fun j56=>joinK j56 fun j56=>
j_PIIIBI j56.1 fun p57 n58 n59 n60 b61 n62=>
(run (Et base) 152 [(vI n58)] j56.2).bind fun r63=>
((some r63.1).bind (getI .i64)).bind fun n64=>
(run (Et base) 151 [(vI n64),(vI n62)] r63.2).bind fun r65=>
((some r65.1).bind (getI .i64)).bind fun n66=>
(p57).bind fun a67=>
((cell r65.2 a67.block (a67.off+6)).bind getM).bind fun m68=>
(run (Et base) 149 [(vI n58)] r65.2).bind fun r69=>
((some r69.1).bind (getI .i64)).bind fun n70=>
(gate (sameA r65.2 r69.2 (some ⟨a67.block,(a67.off+6),none⟩) 1)
((mget r69.2 m68).bind fun w71=>
(some (List.set r69.2 m68 (some (mblk (mput w71 n70 n62))))).bind fun h72=>
(loopL (B97_0 base) [some (.pointer p57),some (vI n58),some (vI n60),some (.bool b61),some (vI n66),some (vI n59),some (vI (0:Int))] h72).bind fun q73=>
(if q73.1=2 then
((sget q73.2.1 0).bind (getI .i64)).bind fun n74=>
some ((vI n74),q73.2.2)
else
none)))))))
theorem r97 {base:Nat} {v0:Option Addr} {v1:Int} {h:AH} {r:Value×AH} (hx:qf97 base v0 v1 h=some r):run (Et base) 97 [(.pointer v0),(vI v1)] h=some r:=run_i (an:=a97) Try.func97 (by kernel_rfl) (.trans (by kernel_rfl) hx)
theorem r98 {base:Nat} {v0_0:Option Addr} {v0_0n:Nat} {v0_1:Option Addr} {v0_1n:Nat} {v0_2:Int} {v1:Option Addr} {v1n:Nat} {v2:Option Addr} {v2n:Nat} {v3:Bool} {h:AH} {r:Value×AH} (hx:(nw1 h 63 [(vL v0_0 v0_0n),(vL v0_1 v0_1n),(vI v0_2)] fun h1=>
nw1 h1 63 [(vL none 0),(vL none 0),(vI 0)] fun h2=>
(c_LLI h2 (List.length h) 0 fun l4 l5 n6=>
(run (Et base) 95 [(.agg #[(vL l4.1 l4.2),(vL l5.1 l5.2),(vI n6)]),(vL v1 v1n),(vL v2 v2n)] h2).bind fun r7=>
((some r7.1).bind getB).bind fun b8=>
(if b8=true then
c_LLI r7.2 (List.length h) 0 fun l9 l10 n11=>
(run (Et base) 96 [(.agg #[(vL l9.1 l9.2),(vL l10.1 l10.2),(vI n11)]),(vL v2 v2n),(.bool v3)] r7.2).bind fun r12=>
(getTup 2 r12.1).bind fun l13=>
gG (l13[0]?) 3 fun l14=>
l_LLI l14 fun l15 l16 n17=>
((l13[1]?).bind getS).bind fun l18=>
nw1 r12.2 63 [(vL none 0),(vL none 0),(vI 0)] fun h19=>
(wr base h19 (List.length r12.2) 0 [(vL l15.1 l15.2),(vL l16.1 l16.2),(vI n17)]).bind fun h20=>
((cell h20 (List.length r12.2) 0).bind getS).bind fun l21=>
(if (decide (((l21.2:Nat):Int)≤(1000:Int)))=true then
c_LLI h20 (List.length r12.2) 0 fun l22 l23 n24=>
(wr base h20 (List.length h1) 0 [(vL l22.1 l22.2),(vL l23.1 l23.2),(vI n24)]).bind fun h25=>
(c_LLI h25 (List.length h1) 0 fun l26 l27 n28=>
some ((.tuple #[(.agg #[(vL l26.1 l26.2),(vL l27.1 l27.2),(vI n28)]),(vL l18.1 l18.2),(.bool true)]),h25)).map .inr
else
some (.inl ([some (vL v2 v2n),some (vP (List.length h)),some (vP (List.length h1))],h20)))
else
some (.inl ([some (vL v2 v2n),some (vP (List.length h)),some (vP (List.length h1))],r7.2)))).bind fun j3=>joinK j3 fun j3=>
j_LAA j3.1 fun l29 d30 d31=>
c_LLI j3.2 d30.block d30.off fun l32 l33 n34=>
(run (Et base) 101 [(.agg #[(vL l32.1 l32.2),(vL l33.1 l33.2),(vI n34)])] j3.2).bind fun r35=>
gG (some r35.1) 3 fun l36=>
l_LLI l36 fun l37 l38 n39=>
nw1 r35.2 3 [] fun h40=>
(app base h40 3 1 8 (some ⟨(List.length r35.2),0,none⟩) 0 (rawAt h40 l29.1 (l29.2*1)) l29.2).bind fun p41=>
((some p41.1).bind getS).bind fun l42=>
(wr base p41.2 d31.block d31.off [(vL l37.1 l37.2),(vL l38.1 l38.2),(vI n39)]).bind fun h43=>
c_LLI h43 d31.block d31.off fun l44 l45 n46=>
some ((.tuple #[(.agg #[(vL l44.1 l44.2),(vL l45.1 l45.2),(vI n46)]),(vL l42.1 l42.2),(.bool false)]),h43))=some r):run (Et base) 98 [(.agg #[(vL v0_0 v0_0n),(vL v0_1 v0_1n),(vI v0_2)]),(vL v1 v1n),(vL v2 v2n),(.bool v3)] h=some r:=run_i (an:=a98) Try.func98 (by kernel_rfl) (.trans (by kernel_rfl) hx)
noncomputable def B99_0 (base:Nat):Body:=fun l h=>lay s99_0 l fun s=>exCode (Et base) (run (Et base)) loopL a99_0 (subC [1,1,1,1,1,0,1,0,0] (bodyC Try.f99)) s h (keepK s99_0 e99_0)
theorem B99_0_eq (base:Nat) (v2:Option Addr) (v2n:Nat) (v4:Addr) (v8:Addr) (v11:Addr) (v12:Option Addr) (v12n:Nat) (v38:Option Addr) (v38n:Nat) (v39:Int) (v40:Int) (h:AH):B99_0 base [some (vL v2 v2n),some (vA v4),some (vA v8),some (vA v11),some (vL v12 v12n),some (vL v38 v38n),some (vI v39),some (vI v40)] h =
((if (decide (v40<v39))=true then
(if 0≤v40∧v40<((v38n:Nat):Int) then
((v38:Option Addr)).bind fun a1=>
((cell h a1.block (a1.off+Int.toNat v40*1)).bind (getI .i64)).bind fun n2=>
(run (Et base) 97 [(.pointer (some v11)),(.int .i64 n2)] h).bind fun r3=>
((some r3.1).bind (getI .i64)).bind fun n4=>
(some (r3.2++[some ⟨[(.int .i64 n4)],3⟩])).bind fun h5=>
(app base h5 3 1 8 v12 v12n (rawAt h5 (some ⟨(List.length r3.2),0,none⟩) (1*1)) 1).bind fun p6=>
((some p6.1).bind getS).bind fun l7=>
some (0,[some (.slice v2 v2n v2n),some (.pointer (some v4)),some (.pointer (some v8)),some (.pointer (some v11)),some (.slice l7.1 l7.2 l7.2),some (.slice v38 v38n v38n),some (.int .i64 v39),some (.int .i64 (IntKind.wrap .i64 (v40+(1:Int))))],p6.2)
else none)
else
some (2,[some (.slice v2 v2n v2n),some (.pointer (some v4)),some (.pointer (some v8)),some (.pointer (some v11)),some (.slice v12 v12n v12n)],h)):Option (Nat×Slots×AH)):=by kernel_rfl
noncomputable abbrev qf99 (base:Nat) (v0_0:Option Addr) (v0_0n:Nat) (v0_1:Option Addr) (v0_1n:Nat) (v0_2:Int) (v1:Option Addr) (v1n:Nat) (v2:Option Addr) (v2n:Nat) (v3:Bool) (h:AH):Option (Value×AH):=
nw1 h 63 [(vL v0_0 v0_0n),(vL v0_1 v0_1n),(vI v0_2)] fun h1=>
nw1 h1 63 [(vL none 0),(vL none 0),(vI 0)] fun h2=>
c_LLI h2 (List.length h) 0 fun l3 l4 n5=>
(run (Et base) 50 [(.agg #[(vL l3.1 l3.2),(vL l4.1 l4.2),(vI n5)]),(vL v1 v1n),(vL v2 v2n)] h2).bind fun r6=>
((some r6.1).bind getB).bind fun b7=>
(if (!b7)=true then
c_LLI r6.2 (List.length h) 0 fun l8 l9 n10=>
(run (Et base) 103 [(.agg #[(vL l8.1 l8.2),(vL l9.1 l9.2),(vI n10)])] r6.2).bind fun r11=>
gG (some r11.1) 3 fun l12=>
l_LLI l12 fun l13 l14 n15=>
(run (Et base) 104 [(vL v2 v2n)] r11.2).bind fun r16=>
((some r16.1).bind getS).bind fun l17=>
(wr base r16.2 (List.length h1) 0 [(vL l13.1 l13.2),(vL l14.1 l14.2),(vI n15)]).bind fun h18=>
c_LLI h18 (List.length h1) 0 fun l19 l20 n21=>
some ((.tuple #[(.agg #[(vL l19.1 l19.2),(vL l20.1 l20.2),(vI n21)]),(vL l17.1 l17.2),(.bool false)]),h18)
else
c_LLI r6.2 (List.length h) 0 fun l22 l23 n24=>
(some (r6.2++[some (mblk [])])).bind fun h25=>
nw1 h25 119 [(vL l22.1 l22.2),(vL l23.1 l23.2),(vI n24),(.bool v3),(vL none 0),(vL none 0),(.map (some (List.length r6.2)))] fun h26=>
((if (!v3)=true then
((cell h26 (List.length h) 0).bind getS).bind fun l28=>
(run (Et base) 104 [(vL l28.1 l28.2)] h26).bind fun r29=>
((some r29.1).bind getS).bind fun l30=>
(wr base r29.2 (List.length h25) 4 [(vL l30.1 l30.2)]).bind fun h31=>
some (.inl ([some (vL v2 v2n),some (vP (List.length h)),some (vP (List.length h1)),some (vP (List.length h25))],h31))
else
some (.inl ([some (vL v2 v2n),some (vP (List.length h)),some (vP (List.length h1)),some (vP (List.length h25))],h26)))).bind fun j27=>joinK j27 fun j27=>
j_LAAA j27.1 fun l32 d33 d34 d35=>
(loopL (B99_0 base) [some (vL l32.1 l32.2),some (vA d33),some (vA d34),some (vA d35),some (vL none 0),some (vL l32.1 l32.2),some (vI ((l32.2:Nat):Int)),some (vI (0:Int))] j27.2).bind fun q36=>
(if q36.1=2 then
j_LAAAL q36.2.1 fun l37 d38 d39 d40 l41=>
((cell q36.2.2 d40.block (d40.off+4)).bind getS).bind fun l42=>
(if (decide (((l42.2:Nat):Int)>(1000:Int)))=true then
c_LLI q36.2.2 d38.block d38.off fun l43 l44 n45=>
(run (Et base) 103 [(.agg #[(vL l43.1 l43.2),(vL l44.1 l44.2),(vI n45)])] q36.2.2).bind fun r46=>
gG (some r46.1) 3 fun l47=>
l_LLI l47 fun l48 l49 n50=>
(run (Et base) 104 [(vL l37.1 l37.2)] r46.2).bind fun r51=>
((some r51.1).bind getS).bind fun l52=>
(wr base r51.2 d39.block d39.off [(vL l48.1 l48.2),(vL l49.1 l49.2),(vI n50)]).bind fun h53=>
c_LLI h53 d39.block d39.off fun l54 l55 n56=>
some ((.tuple #[(.agg #[(vL l54.1 l54.2),(vL l55.1 l55.2),(vI n56)]),(vL l52.1 l52.2),(.bool false)]),h53)
else
((cell q36.2.2 d40.block (d40.off+4)).bind getS).bind fun l57=>
((cell q36.2.2 d40.block (d40.off+5)).bind getS).bind fun l58=>
((cell q36.2.2 d40.block (d40.off+5)).bind getS).bind fun l59=>
(wr base q36.2.2 d39.block d39.off [(vL l57.1 l57.2),(vL l58.1 l58.2),(vI ((l59.2:Nat):Int))]).bind fun h60=>
c_LLI h60 d39.block d39.off fun l61 l62 n63=>
some ((.tuple #[(.agg #[(vL l61.1 l61.2),(vL l62.1 l62.2),(vI n63)]),(vL l41.1 l41.2),(.bool true)]),h60))
else
none))
theorem r99 {base:Nat} {v0_0:Option Addr} {v0_0n:Nat} {v0_1:Option Addr} {v0_1n:Nat} {v0_2:Int} {v1:Option Addr} {v1n:Nat} {v2:Option Addr} {v2n:Nat} {v3:Bool} {h:AH} {r:Value×AH} (hx:qf99 base v0_0 v0_0n v0_1 v0_1n v0_2 v1 v1n v2 v2n v3 h=some r):run (Et base) 99 [(.agg #[(vL v0_0 v0_0n),(vL v0_1 v0_1n),(vI v0_2)]),(vL v1 v1n),(vL v2 v2n),(.bool v3)] h=some r:=run_i (an:=a99) Try.func99 (by kernel_rfl) (.trans (by kernel_rfl) hx)
theorem r101 {base:Nat} {v0_0:Option Addr} {v0_0n:Nat} {v0_1:Option Addr} {v0_1n:Nat} {v0_2:Int} {h:AH} {r:Value×AH} (hx:(nw1 h 63 [(vL v0_0 v0_0n),(vL v0_1 v0_1n),(vI v0_2)] fun h1=>
nw1 h1 63 [(vL none 0),(vL none 0),(vI 0)] fun h2=>
nw1 h2 3 [] fun h3=>
(gate (neA (some ⟨(List.length h),0,none⟩) (List.length h2))
(((cell h3 (List.length h) 0).bind getS).bind fun l4=>
(app base h3 3 1 8 (some ⟨(List.length h2),0,none⟩) 0 (rawAt h3 l4.1 (l4.2*1)) l4.2).bind fun p5=>
((some p5.1).bind getS).bind fun l6=>
(gate (neA (some ⟨(List.length h),0,none⟩) (List.length p5.2))
(nw1 p5.2 3 [] fun h7=>
(gate (neA (some ⟨(List.length h),1,none⟩) (List.length p5.2))
((gate (neA (some ⟨(List.length h),1,none⟩) (List.length h2))
((gate (sameA h3 h7 (some ⟨(List.length h),1,none⟩) 1)
(((cell h7 (List.length h) 1).bind getS).bind fun l8=>
(app base h7 3 1 8 (some ⟨(List.length p5.2),0,none⟩) 0 (rawAt h7 l8.1 (l8.2*1)) l8.2).bind fun p9=>
((some p9.1).bind getS).bind fun l10=>
(gate (neA (some ⟨(List.length h),2,none⟩) (List.length p5.2))
((gate (neA (some ⟨(List.length h),2,none⟩) (List.length h2))
((gate (sameA h7 p9.2 (some ⟨(List.length h),2,none⟩) 1)
((gate (sameA h3 p9.2 (some ⟨(List.length h),2,none⟩) 1)
(((cell p9.2 (List.length h) 2).bind (getI .i64)).bind fun n11=>
(wr base p9.2 (List.length h1) 0 [(vL l6.1 l6.2),(vL l10.1 l10.2),(vI n11)]).bind fun h12=>
c_LLI h12 (List.length h1) 0 fun l13 l14 n15=>
some ((.agg #[(vL l13.1 l13.2),(vL l14.1 l14.2),(vI n15)]),h12))))))))))))))))))))=some r):run (Et base) 101 [(.agg #[(vL v0_0 v0_0n),(vL v0_1 v0_1n),(vI v0_2)])] h=some r:=run_i (an:=a101) Try.func101 (by kernel_rfl) (.trans (by kernel_rfl) hx)
theorem r103 {base:Nat} {v0_0:Option Addr} {v0_0n:Nat} {v0_1:Option Addr} {v0_1n:Nat} {v0_2:Int} {h:AH} {r:Value×AH} (hx:((some (h++[some ⟨[(.slice v0_0 v0_0n v0_0n),(.slice v0_1 v0_1n v0_1n),(.int .i64 v0_2)],63⟩])).bind fun h1=>
(some (h1++[some ⟨[(.slice none 0 0),(.slice none 0 0),(.int .i64 0)],63⟩])).bind fun h2=>
((cell h2 (List.length h) 0).bind getS).bind fun l3=>
(run (Et base) 104 [(.slice l3.1 l3.2 l3.2)] h2).bind fun r4=>
((some r4.1).bind getS).bind fun l5=>
(gate (sameA h2 r4.2 (some ⟨(List.length h),1,none⟩) 1)
(((cell r4.2 (List.length h) 1).bind getS).bind fun l6=>
(run (Et base) 104 [(.slice l6.1 l6.2 l6.2)] r4.2).bind fun r7=>
((some r7.1).bind getS).bind fun l8=>
(gate (sameA r4.2 r7.2 (some ⟨(List.length h),2,none⟩) 1)
((gate (sameA h2 r7.2 (some ⟨(List.length h),2,none⟩) 1)
(((cell r7.2 (List.length h) 2).bind (getI .i64)).bind fun n9=>
(wr base r7.2 (List.length h1) 0 [(.slice l5.1 l5.2 l5.2),(.slice l8.1 l8.2 l8.2),(.int .i64 n9)]).bind fun h10=>
((cell h10 (List.length h1) 0).bind getS).bind fun l11=>
((cell h10 (List.length h1) 1).bind getS).bind fun l12=>
((cell h10 (List.length h1) 2).bind (getI .i64)).bind fun n13=>
some ((.agg #[(.slice l11.1 l11.2 l11.2),(.slice l12.1 l12.2 l12.2),(.int .i64 n13)]),h10))))))))=some r):run (Et base) 103 [(.agg #[(vL v0_0 v0_0n),(vL v0_1 v0_1n),(vI v0_2)])] h=some r:=run_i (an:=a103) Try.func103 (by kernel_rfl) (.trans (by kernel_rfl) hx)
theorem r104 {base:Nat} {v0:Option Addr} {v0n:Nat} {h:AH} {r:Value×AH} (hx:((app base h 3 1 8 none 0 (rawAt h v0 (v0n*1)) v0n).bind fun p1=>
((some p1.1).bind getS).bind fun l2=>
some ((.slice l2.1 l2.2 l2.2),p1.2))=some r):run (Et base) 104 [(vL v0 v0n)] h=some r:=run_i (an:=a104) Try.func104 (by kernel_rfl) (.trans (by kernel_rfl) hx)
noncomputable def B106_0 (base:Nat):Body:=fun l h=>lay s106_0 l fun s=>exCode (Et base) (run (Et base)) loopL a106_0 (subC [1,1,1,1,0,1,0,0] (bodyC Try.f106)) s h (keepK s106_0 e106_0)
theorem B106_0_eq (base:Nat) (v0:Option Addr) (v2:Addr) (v5:Addr) (v6:Option Addr) (v6n:Nat) (v7:Option Addr) (v7n:Nat) (v8:Int) (h:AH):B106_0 base [some (.pointer v0),some (vA v2),some (vA v5),some (vL v6 v6n),some (vL v7 v7n),some (vI v8)] h =
((if (decide (v8>(0:Int)))=true then
((run (Et base) 133 [(.pointer v0),(vI (6:Int))] h).bind fun r2=>
((some r2.1).bind (getI .i64)).bind fun n3=>
(if (n3==(0:Int))=true then
c_LLI r2.2 v5.block v5.off fun l4 l5 n6=>
(run (Et base) 45 [(.agg #[(vL l4.1 l4.2),(vL l5.1 l5.2),(vI n6)]),(vL v6 v6n),(vL v7 v7n)] r2.2).bind fun r7=>
(getTup 3 r7.1).bind fun l8=>
gG (l8[0]?) 3 fun l9=>
l_LLI l9 fun l10 l11 n12=>
((l8[1]?).bind getS).bind fun l13=>
((l8[2]?).bind getB).bind fun b14=>
(wr base r7.2 v5.block v5.off [(vL l10.1 l10.2),(vL l11.1 l11.2),(vI n12)]).bind fun h15=>
some (.inl ([some (.pointer v0),some (vA v2),some (vA v5),some (vL v6 v6n),some (vL l13.1 l13.2),some (vI v8)],h15))
else
(if (n3==(1:Int))=true then
(if (decide (((v7n:Nat):Int)>(1:Int)))=true then
(if 0≤(1:Int)∧(1:Int)≤((v7n:Nat):Int)∧((v7n:Nat):Int)≤((v7n:Nat):Int)∧okTy base r2.2 v7 3 (Int.toNat (1:Int))=true then
some (.inl ([some (.pointer v0),some (vA v2),some (vA v5),some (vL v6 v6n),some (.slice (shiftA v7 (Int.toNat (1:Int)*1)) (Int.toNat ((v7n:Nat):Int)-Int.toNat (1:Int)) (Int.toNat ((v7n:Nat):Int)-Int.toNat (1:Int))),some (vI v8)],r2.2))
else none)
else
some (.inl ([some (.pointer v0),some (vA v2),some (vA v5),some (vL v6 v6n),some (vL v7 v7n),some (vI v8)],r2.2)))
else
(if (n3==(2:Int))=true then
(run (Et base) 156 [(.pointer v0),(vI (3:Int))] r2.2).bind fun r16=>
((some r16.1).bind getB).bind fun b17=>
(if b17=true then
c_LLI r16.2 v5.block v5.off fun l18 l19 n20=>
(run (Et base) 38 [(.agg #[(vL l18.1 l18.2),(vL l19.1 l19.2),(vI n20)]),(vL v6 v6n),(vL v7 v7n)] r16.2).bind fun r21=>
(getTup 3 r21.1).bind fun l22=>
gG (l22[0]?) 3 fun l23=>
l_LLI l23 fun l24 l25 n26=>
((l22[1]?).bind getS).bind fun l27=>
((l22[2]?).bind getB).bind fun b28=>
(wr base r21.2 v5.block v5.off [(vL l24.1 l24.2),(vL l25.1 l25.2),(vI n26)]).bind fun h29=>
some (.inl ([some (.pointer v0),some (vA v2),some (vA v5),some (vL v6 v6n),some (vL l27.1 l27.2),some (vI v8)],h29))
else
some (.inl ([some (.pointer v0),some (vA v2),some (vA v5),some (vL v6 v6n),some (vL v7 v7n),some (vI v8)],r16.2)))
else
c_LLI r2.2 v5.block v5.off fun l30 l31 n32=>
(run (Et base) 132 [(.pointer v0),(vI (2:Int))] r2.2).bind fun r33=>
gG (some r33.1) 4 fun l34=>
l_IITL l34 fun n35 n36 s37 l38=>
(gate (sameA r2.2 r33.2 (some v5) 3)
((run (Et base) 157 [(.agg #[(vL l30.1 l30.2),(vL l31.1 l31.2),(vI n32)]),(vL v6 v6n),(.agg #[(vI n35),(vI n36),(vT s37),(vL l38.1 l38.2)])] r33.2).bind fun r39=>
(getTup 4 r39.1).bind fun l40=>
gG (l40[0]?) 3 fun l41=>
l_LLI l41 fun l42 l43 n44=>
((l40[1]?).bind getS).bind fun l45=>
((l40[2]?).bind (getI .i64)).bind fun n46=>
((l40[3]?).bind getB).bind fun b47=>
(gate (neA (some v5) (List.length r39.2))
(nw1 r39.2 63 [(vL none 0),(vL none 0),(vI 0)] fun h48=>
(wr base h48 (List.length r39.2) 0 [(vL l42.1 l42.2),(vL l43.1 l43.2),(vI n44)]).bind fun h49=>
(if b47=true then
c_LLI h49 (List.length r39.2) 0 fun l50 l51 n52=>
(wr base h49 v5.block v5.off [(vL l50.1 l50.2),(vL l51.1 l51.2),(vI n52)]).bind fun h53=>
nw1 h53 3 [(vI n46)] fun h54=>
(app base h54 3 1 8 v7 v7n (rawAt h54 (some ⟨(List.length h53),0,none⟩) (1*1)) 1).bind fun p55=>
((some p55.1).bind getS).bind fun l56=>
some (.inl ([some (.pointer v0),some (vA v2),some (vA v5),some (vL l45.1 l45.2),some (vL l56.1 l56.2),some (vI v8)],p55.2))
else
some (.inl ([some (.pointer v0),some (vA v2),some (vA v5),some (vL v6 v6n),some (vL v7 v7n),some (vI v8)],h49))))))))))).bind fun j1=>joinK j1 fun j1=>
j_PAALLI j1.1 fun p57 d58 d59 l60 l61 n62=>
some (0,[some (.pointer p57),some (vA d58),some (vA d59),some (vL l60.1 l60.2),some (vL l61.1 l61.2),some (vI (IntKind.wrap .i64 (n62-(1:Int))))],j1.2)
else
some (2,[some (vA v2),some (vA v5),some (vL v6 v6n),some (vL v7 v7n)],h)):Option (Nat×Slots×AH)):=by kernel_rfl
theorem r106 {base:Nat} {v0:Option Addr} {h:AH} {r:Value×AH} (hx:(nw1 h 63 [(vL none 0),(vL none 0),(vI 0)] fun h1=>
nw1 h1 63 [(vL none 0),(vL none 0),(vI 0)] fun h2=>
(wr base h2 (List.length h1) 0 [(vL none 0),(vL none 0),(vI (0:Int))]).bind fun h3=>
nw1 h3 9 [] fun h4=>
nw1 h4 3 [] fun h5=>
(run (Et base) 133 [(.pointer v0),(vI (8:Int))] h5).bind fun r6=>
((some r6.1).bind (getI .i64)).bind fun n7=>
(loopL (B106_0 base) [some (.pointer v0),some (vP (List.length h)),some (vP (List.length h1)),some (vL (some ⟨(List.length h3),0,none⟩) 0),some (vL (some ⟨(List.length h4),0,none⟩) 0),some (vI (IntKind.wrap .i64 ((1:Int)+n7)))] r6.2).bind fun q8=>
(if q8.1=2 then
j_AALL q8.2.1 fun d9 d10 l11 l12=>
c_LLI q8.2.2 d10.block d10.off fun l13 l14 n15=>
(wr base q8.2.2 d9.block d9.off [(vL l13.1 l13.2),(vL l14.1 l14.2),(vI n15)]).bind fun h16=>
c_LLI h16 d9.block d9.off fun l17 l18 n19=>
some ((.tuple #[(.agg #[(vL l17.1 l17.2),(vL l18.1 l18.2),(vI n19)]),(vL l11.1 l11.2),(vL l12.1 l12.2)]),h16)
else
none))=some r):run (Et base) 106 [(.pointer v0)] h=some r:=run_i (an:=a106) Try.func106 (by kernel_rfl) (.trans (by kernel_rfl) hx)
noncomputable def B107_0 (base:Nat):Body:=fun l h=>lay s107_0 l fun s=>exCode (Et base) (run (Et base)) loopL a107_0 (subC [1,0,1,0,0] (bodyC Try.f107)) s h (keepK s107_0 e107_0)
theorem B107_0_eq (base:Nat) (v0:Option Addr) (v0n:Nat) (v5:Option Addr) (v5n:Nat) (v6:Int) (v7:Int) (h:AH):B107_0 base [some (vL v0 v0n),some (vL v5 v5n),some (vI v6),some (vI v7)] h =
((if (decide (v7<v6))=true then
(if 0≤v7∧v7<((v5n:Nat):Int) then
((v5:Option Addr)).bind fun a1=>
((cell h a1.block (a1.off+Int.toNat v7*1)).bind getStr).bind fun s2=>
((run (Et base) 158 [(vT s2)] h).bind fun r4=>
((some r4.1).bind getB).bind fun b5=>
(if (!b5)=true then
some (.inl ([some (vL v0 v0n),some (vL v5 v5n),some (vI v6),some (vI v7),some (.bool true)],r4.2))
else
(if 0≤(0:Int)∧(0:Int)≤v7∧v7≤((v0n:Nat):Int)∧okTy base r4.2 v0 9 (Int.toNat (0:Int))=true then
(run (Et base) 159 [(.slice (shiftA v0 (Int.toNat (0:Int)*1)) (Int.toNat v7-Int.toNat (0:Int)) (Int.toNat v7-Int.toNat (0:Int))),(vT s2)] r4.2).bind fun r6=>
((some r6.1).bind (getI .i64)).bind fun n7=>
some (.inl ([some (vL v0 v0n),some (vL v5 v5n),some (vI v6),some (vI v7),some (.bool (decide (n7≥(0:Int))))],r6.2))
else none))).bind fun j3=>joinK j3 fun j3=>
j_LLIIB j3.1 fun l8 l9 n10 n11 b12=>
(if b12=true then
some (1,[some (.bool false)],j3.2)
else
some (0,[some (vL l8.1 l8.2),some (vL l9.1 l9.2),some (vI n10),some (vI (IntKind.wrap .i64 (n11+(1:Int))))],j3.2))
else none)
else
some (2,[some (vL v0 v0n)],h)):Option (Nat×Slots×AH)):=by kernel_rfl
theorem r107 {base:Nat} {v0:Option Addr} {v0n:Nat} {h:AH} {r:Value×AH} (hx:((loopL (B107_0 base) [some (.slice v0 v0n v0n),some (.slice v0 v0n v0n),some (.int .i64 ((v0n:Nat):Int)),some (.int .i64 (0:Int))] h).bind fun q1=>
(if q1.1=1 then
((sget q1.2.1 0).bind getB).bind fun b2=>
some ((.bool b2),q1.2.2)
else
(if q1.1=2 then
((sget q1.2.1 0).bind getS).bind fun l3=>
some ((.bool (decide (((l3.2:Nat):Int)≤(200:Int)))),q1.2.2)
else
none)))=some r):run (Et base) 107 [(vL v0 v0n)] h=some r:=run_i (an:=a107) Try.func107 (by kernel_rfl) (.trans (by kernel_rfl) hx)
theorem r108 {base:Nat} {v0_0:Option Addr} {v0_0n:Nat} {v0_1:Option Addr} {v0_1n:Nat} {v0_2:Int} {v1:Option Addr} {v1n:Nat} {v2:Int} {h:AH} {r:Value×AH} (hx:((some (h++[some ⟨[(.slice v0_0 v0_0n v0_0n),(.slice v0_1 v0_1n v0_1n),(.int .i64 v0_2)],63⟩])).bind fun h1=>
(some (h1++[some ⟨[(.int .i64 0),(.int .i64 0),(.string ⟨#[]⟩),(.slice none 0 0)],42⟩])).bind fun h2=>
(run (Et base) 160 [(.func (.func 154) #[(.pointer (some ⟨(List.length h),0,none⟩))] #[]),(.slice v1 v1n v1n),(.int .i64 v2)] h2).bind fun r3=>
(getTup 2 r3.1).bind fun l4=>
((l4[0]?).bind (getAgg 4)).bind fun l5=>
((l5[0]?).bind (getI .i64)).bind fun n6=>
((l5[1]?).bind (getI .i64)).bind fun n7=>
((l5[2]?).bind getStr).bind fun s8=>
((l5[3]?).bind getS).bind fun l9=>
((l4[1]?).bind getB).bind fun b10=>
(wr base r3.2 (List.length h1) 0 [(.int .i64 n6),(.int .i64 n7),(.string s8),(.slice l9.1 l9.2 l9.2)]).bind fun h11=>
((cell h11 (List.length h1) 0).bind (getI .i64)).bind fun n12=>
((cell h11 (List.length h1) 1).bind (getI .i64)).bind fun n13=>
((cell h11 (List.length h1) 2).bind getStr).bind fun s14=>
((cell h11 (List.length h1) 3).bind getS).bind fun l15=>
some ((.tuple #[(.agg #[(.int .i64 n12),(.int .i64 n13),(.string s14),(.slice l15.1 l15.2 l15.2)]),(.bool b10)]),h11))=some r):run (Et base) 108 [(.agg #[(vL v0_0 v0_0n),(vL v0_1 v0_1n),(vI v0_2)]),(vL v1 v1n),(vI v2)] h=some r:=run_i (an:=a108) Try.func108 (by kernel_rfl) (.trans (by kernel_rfl) hx)
noncomputable def B109_0 (base:Nat):Body:=fun l h=>lay s109_0 l fun s=>exCode (Et base) (run (Et base)) loopL a109_0 (subC [1,1,1,0,1,0,0] (bodyC Try.f109)) s h (keepK s109_0 e109_0)
theorem B109_0_eq (base:Nat) (v0:Option Addr) (v5:Int) (v17:Option Addr) (v17n:Nat) (v18:Int) (v19:Int) (h:AH):B109_0 base [some (.pointer v0),some (vI v5),some (vL v17 v17n),some (vI v18),some (vI v19)] h =
((if (decide (v19<v18))=true then
(if 0≤v19∧v19<((v17n:Nat):Int) then
((v17:Option Addr)).bind fun a1=>
((cell h a1.block (a1.off+Int.toNat v19*1)).bind (getI .i64)).bind fun n2=>
((run (Et base) 150 [(vI n2)] h).bind fun r4=>
((some r4.1).bind getB).bind fun b5=>
(if b5=true then
(run (Et base) 149 [(vI n2)] r4.2).bind fun r6=>
((some r6.1).bind (getI .i64)).bind fun n7=>
(run (Et base) 148 [(.pointer v0),(vI n7)] r6.2).bind fun r8=>
((some r8.1).bind (getI .i64)).bind fun n9=>
(if (decide (n9>v5))=true then
some (.inl ([some (.pointer v0),some (vI v5),some (vL v17 v17n),some (vI v18),some (vI v19),some (.bool true)],r8.2))
else
(run (Et base) 109 [(.pointer v0),(vI n2)] r8.2).bind fun r10=>
((some r10.1).bind getB).bind fun b11=>
some (.inl ([some (.pointer v0),some (vI v5),some (vL v17 v17n),some (vI v18),some (vI v19),some (.bool (!b11))],r10.2)))
else
(run (Et base) 109 [(.pointer v0),(vI n2)] r4.2).bind fun r12=>
((some r12.1).bind getB).bind fun b13=>
some (.inl ([some (.pointer v0),some (vI v5),some (vL v17 v17n),some (vI v18),some (vI v19),some (.bool (!b13))],r12.2)))).bind fun j3=>joinK j3 fun j3=>
j_PILIIB j3.1 fun p14 n15 l16 n17 n18 b19=>
(if b19=true then
some (1,[some (.bool false)],j3.2)
else
some (0,[some (.pointer p14),some (vI n15),some (vL l16.1 l16.2),some (vI n17),some (vI (IntKind.wrap .i64 (n18+(1:Int))))],j3.2))
else none)
else
some (2,[],h)):Option (Nat×Slots×AH)):=by kernel_rfl
theorem r109 {base:Nat} {v0:Option Addr} {v1:Int} {h:AH} {r:Value×AH} (hx:((run (Et base) 150 [(.int .i64 v1)] h).bind fun r1=>
((some r1.1).bind getB).bind fun b2=>
(if (!b2)=true then
some ((.bool true),r1.2)
else
(run (Et base) 149 [(.int .i64 v1)] r1.2).bind fun r3=>
((some r3.1).bind (getI .i64)).bind fun n4=>
(run (Et base) 148 [(.pointer v0),(.int .i64 n4)] r3.2).bind fun r5=>
((some r5.1).bind (getI .i64)).bind fun n6=>
(run (Et base) 161 [(.pointer v0),(.int .i64 v1)] r5.2).bind fun r7=>
((some r7.1).bind getS).bind fun l8=>
(loopL (B109_0 base) [some (.pointer v0),some (.int .i64 n6),some (.slice l8.1 l8.2 l8.2),some (.int .i64 ((l8.2:Nat):Int)),some (.int .i64 (0:Int))] r7.2).bind fun q9=>
(if q9.1=1 then
((sget q9.2.1 0).bind getB).bind fun b10=>
some ((.bool b10),q9.2.2)
else
(if q9.1=2 then
some ((.bool true),q9.2.2)
else
none))))=some r):run (Et base) 109 [(.pointer v0),(vI v1)] h=some r:=run_i (an:=a109) Try.func109 (by kernel_rfl) (.trans (by kernel_rfl) hx)
noncomputable def B110_0 (base:Nat):Body:=fun l h=>lay s110_0 l fun s=>exCode (Et base) (run (Et base)) loopL a110_0 (subC [1,1,0,1,0,0] (bodyC Try.f110)) s h (keepK s110_0 e110_0)
theorem B110_0_eq (base:Nat) (v2:Addr) (v3:Addr) (v36:Int) (v37:Int) (h:AH):B110_0 base [some (vA v2),some (vA v3),some (vI v36),some (vI v37)] h =
((if (decide (v37<v36))=true then
((cell h v2.block (v2.off+3)).bind getS).bind fun l1=>
(if 0≤v37∧v37<((l1.2:Nat):Int) then
((l1.1:Option Addr)).bind fun a2=>
c_IITL h a2.block (a2.off+Int.toNat v37*4) fun n3 n4 s5 l6=>
((cell h v3.block (v3.off+3)).bind getS).bind fun l7=>
(if 0≤v37∧v37<((l7.2:Nat):Int) then
((l7.1:Option Addr)).bind fun a8=>
c_IITL h a8.block (a8.off+Int.toNat v37*4) fun n9 n10 s11 l12=>
(run (Et base) 110 [(.agg #[(vI n3),(vI n4),(vT s5),(vL l6.1 l6.2)]),(.agg #[(vI n9),(vI n10),(vT s11),(vL l12.1 l12.2)])] h).bind fun r13=>
((some r13.1).bind getB).bind fun b14=>
(if (!b14)=true then
some (1,[some (.bool false)],r13.2)
else
some (0,[some (vA v2),some (vA v3),some (vI v36),some (vI (IntKind.wrap .i64 (v37+(1:Int))))],r13.2))
else none)
else none)
else
some (2,[],h)):Option (Nat×Slots×AH)):=by kernel_rfl
theorem r110 {base:Nat} {v0_0:Int} {v0_1:Int} {v0_2:ByteArray} {v0_3:Option Addr} {v0_3n:Nat} {v1_0:Int} {v1_1:Int} {v1_2:ByteArray} {v1_3:Option Addr} {v1_3n:Nat} {h:AH} {r:Value×AH} (hx:(nw1 h 42 [(vI v0_0),(vI v0_1),(vT v0_2),(vL v0_3 v0_3n)] fun h1=>
nw1 h1 42 [(vI v1_0),(vI v1_1),(vT v1_2),(vL v1_3 v1_3n)] fun h2=>
(((cell h2 (List.length h) 0).bind (getI .i64)).bind fun n4=>
((cell h2 (List.length h1) 0).bind (getI .i64)).bind fun n5=>
(if (n4 != n5)=true then
some (.inl ([some (vP (List.length h)),some (vP (List.length h1)),some (.bool true)],h2))
else
((cell h2 (List.length h) 1).bind (getI .i64)).bind fun n6=>
((cell h2 (List.length h1) 1).bind (getI .i64)).bind fun n7=>
(if (n6 != n7)=true then
some (.inl ([some (vP (List.length h)),some (vP (List.length h1)),some (.bool true)],h2))
else
((cell h2 (List.length h) 2).bind getStr).bind fun s8=>
((cell h2 (List.length h1) 2).bind getStr).bind fun s9=>
(if (!(s8.toList==s9.toList))=true then
some (.inl ([some (vP (List.length h)),some (vP (List.length h1)),some (.bool true)],h2))
else
((cell h2 (List.length h) 3).bind getS).bind fun l10=>
((cell h2 (List.length h1) 3).bind getS).bind fun l11=>
some (.inl ([some (vP (List.length h)),some (vP (List.length h1)),some (.bool (((l10.2:Nat):Int) != ((l11.2:Nat):Int)))],h2)))))).bind fun j3=>joinK j3 fun j3=>
j_AAB j3.1 fun d12 d13 b14=>
(if b14=true then
some ((.bool false),j3.2)
else
((cell j3.2 d12.block (d12.off+3)).bind getS).bind fun l15=>
(loopL (B110_0 base) [some (vA d12),some (vA d13),some (vI ((l15.2:Nat):Int)),some (vI (0:Int))] j3.2).bind fun q16=>
(if q16.1=1 then
((sget q16.2.1 0).bind getB).bind fun b17=>
some ((.bool b17),q16.2.2)
else
(if q16.1=2 then
some ((.bool true),q16.2.2)
else
none))))=some r):run (Et base) 110 [(.agg #[(vI v0_0),(vI v0_1),(vT v0_2),(vL v0_3 v0_3n)]),(.agg #[(vI v1_0),(vI v1_1),(vT v1_2),(vL v1_3 v1_3n)])] h=some r:=run_i (an:=a110) Try.func110 (by kernel_rfl) (.trans (by kernel_rfl) hx)
theorem r111 {base:Nat} {v0_0:Option Addr} {v0_0n:Nat} {v0_1:Option Addr} {v0_1n:Nat} {v0_2:Int} {v1:Option Addr} {v1n:Nat} {v2:Int} {h:AH} {r:Value×AH} (hx:(nw1 h 63 [(vL v0_0 v0_0n),(vL v0_1 v0_1n),(vI v0_2)] fun h1=>
nw1 h1 42 [(vI 0),(vI 0),(vT ⟨#[]⟩),(vL none 0)] fun h2=>
c_LLI h2 (List.length h) 0 fun l3 l4 n5=>
nw1 h2 181 [(vL l3.1 l3.2),(vL l4.1 l4.2),(vI n5),(vL v1 v1n),(vI (100:Int)),(.bool false)] fun h6=>
(run (Et base) 162 [(vP (List.length h2)),(vI v2),(vI (6:Int))] h6).bind fun r7=>
gG (some r7.1) 4 fun l8=>
l_IITL l8 fun n9 n10 s11 l12=>
nw1 r7.2 42 [(vI 0),(vI 0),(vT ⟨#[]⟩),(vL none 0)] fun h13=>
(wr base h13 (List.length r7.2) 0 [(vI n9),(vI n10),(vT s11),(vL l12.1 l12.2)]).bind fun h14=>
(((cell h14 (List.length h2) 5).bind getB).bind fun b16=>
(if b16=true then
some (.inl ([some (vP (List.length h1)),some (vP (List.length r7.2)),some (.bool true)],h14))
else
c_IITL h14 (List.length r7.2) 0 fun n17 n18 s19 l20=>
(run (Et base) 58 [(.agg #[(vI n17),(vI n18),(vT s19),(vL l20.1 l20.2)])] h14).bind fun r21=>
((some r21.1).bind getB).bind fun b22=>
some (.inl ([some (vP (List.length h1)),some (vP (List.length r7.2)),some (.bool (!b22))],r21.2)))).bind fun j15=>joinK j15 fun j15=>
j_AAB j15.1 fun d23 d24 b25=>
(if b25=true then
(wr base j15.2 d23.block d23.off [(vI (0:Int)),(vI (0:Int)),(vT (⟨#[]⟩:ByteArray)),(vL none 0)]).bind fun h26=>
c_IITL h26 d23.block d23.off fun n27 n28 s29 l30=>
some ((.tuple #[(.agg #[(vI n27),(vI n28),(vT s29),(vL l30.1 l30.2)]),(.bool false)]),h26)
else
c_IITL j15.2 d24.block d24.off fun n31 n32 s33 l34=>
(wr base j15.2 d23.block d23.off [(vI n31),(vI n32),(vT s33),(vL l34.1 l34.2)]).bind fun h35=>
c_IITL h35 d23.block d23.off fun n36 n37 s38 l39=>
some ((.tuple #[(.agg #[(vI n36),(vI n37),(vT s38),(vL l39.1 l39.2)]),(.bool true)]),h35)))=some r):run (Et base) 111 [(.agg #[(vL v0_0 v0_0n),(vL v0_1 v0_1n),(vI v0_2)]),(vL v1 v1n),(vI v2)] h=some r:=run_i (an:=a111) Try.func111 (by kernel_rfl) (.trans (by kernel_rfl) hx)
noncomputable def B117_0 (base:Nat):Body:=fun l h=>lay s117_0 l fun s=>exCode (Et base) (run (Et base)) loopL a117_0 (subC [1,1,1,0,1,0,0] (bodyC Try.f117)) s h (keepK s117_0 e117_0)
theorem B117_0_eq (base:Nat) (v1:Int) (v2:Int) (v3:Addr) (v7:Int) (h:AH):B117_0 base [some (vI v1),some (vI v2),some (vA v3),some (vI v7)] h =
((((cell h v3.block (v3.off+3)).bind getS).bind fun l2=>
(if (decide (v7<((l2.2:Nat):Int)))=true then
some (.inl ([some (vI v1),some (vI v2),some (vA v3),some (vI v7),some (.bool (decide (v2≥(0:Int))))],h))
else
some (.inl ([some (vI v1),some (vI v2),some (vA v3),some (vI v7),some (.bool false)],h)))).bind fun j1=>joinK j1 fun j1=>
j_IIAIB j1.1 fun n3 n4 d5 n6 b7=>
(if b7=true then
((cell j1.2 d5.block (d5.off+3)).bind getS).bind fun l8=>
(if 0≤n6∧n6<((l8.2:Nat):Int) then
((l8.1:Option Addr)).bind fun a9=>
c_IITL j1.2 a9.block (a9.off+Int.toNat n6*4) fun n10 n11 s12 l13=>
(run (Et base) 117 [(.agg #[(vI n10),(vI n11),(vT s12),(vL l13.1 l13.2)]),(vI (IntKind.wrap .i64 (n3-(1:Int)))),(vI n4)] j1.2).bind fun r14=>
((some r14.1).bind (getI .i64)).bind fun n15=>
some (0,[some (vI n3),some (vI n15),some (vA d5),some (vI (IntKind.wrap .i64 (n6+(1:Int))))],r14.2)
else none)
else
some (2,[some (vI n4)],j1.2)):Option (Nat×Slots×AH)):=by kernel_rfl
theorem r117 {base:Nat} {v0_0:Int} {v0_1:Int} {v0_2:ByteArray} {v0_3:Option Addr} {v0_3n:Nat} {v1:Int} {v2:Int} {h:AH} {r:Value×AH} (hx:(nw1 h 42 [(vI v0_0),(vI v0_1),(vT v0_2),(vL v0_3 v0_3n)] fun h1=>
((if (decide (v1<(1:Int)))=true then
some (.inl ([some (vI v1),some (vI v2),some (vP (List.length h)),some (.bool true)],h1))
else
(if (decide (v2<(1:Int)))=true then
some (.inl ([some (vI v1),some (vI v2),some (vP (List.length h)),some (.bool true)],h1))
else
c_IITL h1 (List.length h) 0 fun n3 n4 s5 l6=>
(run (Et base) 164 [(.agg #[(vI n3),(vI n4),(vT s5),(vL l6.1 l6.2)])] h1).bind fun r7=>
((some r7.1).bind getB).bind fun b8=>
some (.inl ([some (vI v1),some (vI v2),some (vP (List.length h)),some (.bool (!b8))],r7.2))))).bind fun j2=>joinK j2 fun j2=>
j_IIAB j2.1 fun n9 n10 d11 b12=>
(if b12=true then
some ((vI (-1:Int)),j2.2)
else
(loopL (B117_0 base) [some (vI n9),some (vI (IntKind.wrap .i64 (n10-(1:Int)))),some (vA d11),some (vI (0:Int))] j2.2).bind fun q13=>
(if q13.1=2 then
((sget q13.2.1 0).bind (getI .i64)).bind fun n14=>
some ((vI n14),q13.2.2)
else
none)))=some r):run (Et base) 117 [(.agg #[(vI v0_0),(vI v0_1),(vT v0_2),(vL v0_3 v0_3n)]),(vI v1),(vI v2)] h=some r:=run_i (an:=a117) Try.func117 (by kernel_rfl) (.trans (by kernel_rfl) hx)
noncomputable def B124_0 (base:Nat):Body:=fun l h=>lay s124_0 l fun s=>exCode (Et base) (run (Et base)) loopL a124_0 (subC [1,1,1,0,1,0,0] (bodyC Try.f124)) s h (keepK s124_0 e124_0)
theorem B124_0_eq (base:Nat) (v1:Int) (v2:Int) (v27:Option Addr) (v27n:Nat) (v28:Int) (v29:Int) (h:AH):B124_0 base [some (vI v1),some (vI v2),some (vL v27 v27n),some (vI v28),some (vI v29)] h =
((if (decide (v29<v28))=true then
(if 0≤v29∧v29<((v27n:Nat):Int) then
((v27:Option Addr)).bind fun a1=>
c_IITL h a1.block (a1.off+Int.toNat v29*4) fun n2 n3 s4 l5=>
nw1 h 42 [(vI 0),(vI 0),(vT ⟨#[]⟩),(vL none 0)] fun h6=>
(wr base h6 (List.length h) 0 [(vI n2),(vI n3),(vT s4),(vL l5.1 l5.2)]).bind fun h7=>
c_IITL h7 (List.length h) 0 fun n8 n9 s10 l11=>
(run (Et base) 124 [(.agg #[(vI n8),(vI n9),(vT s10),(vL l11.1 l11.2)]),(vI (IntKind.wrap .i64 (v1+(1:Int)))),(vI v2)] h7).bind fun r12=>
(getTup 2 r12.1).bind fun l13=>
l_IB l13 fun n14 b15=>
(if (!b15)=true then
some (1,[some (vI n14),some (.bool false)],r12.2)
else
some (0,[some (vI v1),some (vI n14),some (vL v27 v27n),some (vI v28),some (vI (IntKind.wrap .i64 (v29+(1:Int))))],r12.2))
else none)
else
some (2,[some (vI v2)],h)):Option (Nat×Slots×AH)):=by kernel_rfl
theorem r124 {base:Nat} {v0_0:Int} {v0_1:Int} {v0_2:ByteArray} {v0_3:Option Addr} {v0_3n:Nat} {v1:Int} {v2:Int} {h:AH} {r:Value×AH} (hx:(nw1 h 42 [(vI v0_0),(vI v0_1),(vT v0_2),(vL v0_3 v0_3n)] fun h1=>
((if (decide (v1>(6:Int)))=true then
some (.inl ([some (vI v1),some (vI (IntKind.wrap .i64 (v2+(1:Int)))),some (vP (List.length h)),some (.bool true)],h1))
else
(if (decide ((IntKind.wrap .i64 (v2+(1:Int)))>(100:Int)))=true then
some (.inl ([some (vI v1),some (vI (IntKind.wrap .i64 (v2+(1:Int)))),some (vP (List.length h)),some (.bool true)],h1))
else
c_IITL h1 (List.length h) 0 fun n3 n4 s5 l6=>
(run (Et base) 166 [(.agg #[(vI n3),(vI n4),(vT s5),(vL l6.1 l6.2)])] h1).bind fun r7=>
((some r7.1).bind getB).bind fun b8=>
some (.inl ([some (vI v1),some (vI (IntKind.wrap .i64 (v2+(1:Int)))),some (vP (List.length h)),some (.bool (!b8))],r7.2))))).bind fun j2=>joinK j2 fun j2=>
j_IIAB j2.1 fun n9 n10 d11 b12=>
(if b12=true then
some ((.tuple #[(vI n10),(.bool false)]),j2.2)
else
((cell j2.2 d11.block (d11.off+3)).bind getS).bind fun l13=>
(loopL (B124_0 base) [some (vI n9),some (vI n10),some (vL l13.1 l13.2),some (vI ((l13.2:Nat):Int)),some (vI (0:Int))] j2.2).bind fun q14=>
(if q14.1=1 then
j_IB q14.2.1 fun n15 b16=>
some ((.tuple #[(vI n15),(.bool b16)]),q14.2.2)
else
(if q14.1=2 then
((sget q14.2.1 0).bind (getI .i64)).bind fun n17=>
some ((.tuple #[(vI n17),(.bool true)]),q14.2.2)
else
none))))=some r):run (Et base) 124 [(.agg #[(vI v0_0),(vI v0_1),(vT v0_2),(vL v0_3 v0_3n)]),(vI v1),(vI v2)] h=some r:=run_i (an:=a124) Try.func124 (by kernel_rfl) (.trans (by kernel_rfl) hx)
noncomputable def B132_0 (base:Nat):Body:=fun l h=>lay s132_0 l fun s=>exCode (Et base) (run (Et base)) loopL a132_0 (subC [1,1,1,0,1,0,0] (bodyC Try.f132)) s h (keepK s132_0 e132_0)
theorem B132_0_eq (base:Nat) (v0:Option Addr) (v1:Int) (v4:Addr) (v5:Addr) (v6:Int) (h:AH):B132_0 base [some (.pointer v0),some (vI v1),some (vA v4),some (vA v5),some (vI v6)] h =
(((if (decide (v6>(0:Int)))=true then
some (.inl ([some (.pointer v0),some (vI v1),some (vA v4),some (vA v5),some (vI v6),some (.bool (decide (v1>(0:Int))))],h))
else
some (.inl ([some (.pointer v0),some (vI v1),some (vA v4),some (vA v5),some (vI v6),some (.bool false)],h)))).bind fun j1=>joinK j1 fun j1=>
j_PIAAIB j1.1 fun p2 n3 d4 d5 n6 b7=>
(if b7=true then
((cell j1.2 d5.block (d5.off+3)).bind getS).bind fun l8=>
(run (Et base) 132 [(.pointer p2),(vI (IntKind.wrap .i64 (n3-(1:Int))))] j1.2).bind fun r9=>
gG (some r9.1) 4 fun l10=>
l_IITL l10 fun n11 n12 s13 l14=>
(gate (sameA j1.2 r9.2 (some ⟨d5.block,(d5.off+3),none⟩) 1)
((gate (neA (some ⟨d5.block,(d5.off+3),none⟩) (List.length r9.2))
(nw1 r9.2 42 [(vI n11),(vI n12),(vT s13),(vL l14.1 l14.2)] fun h15=>
(app base h15 42 4 56 l8.1 l8.2 (rawAt h15 (some ⟨(List.length r9.2),0,none⟩) (1*4)) 1).bind fun p16=>
((some p16.1).bind getS).bind fun l17=>
(wr base p16.2 d5.block (d5.off+3) [(vL l17.1 l17.2)]).bind fun h18=>
some (0,[some (.pointer p2),some (vI n3),some (vA d4),some (vA d5),some (vI (IntKind.wrap .i64 (n6-(1:Int))))],h18)))))
else
some (3,[some (vA d4),some (vA d5)],j1.2)):Option (Nat×Slots×AH)):=by kernel_rfl
noncomputable abbrev qf132 (base:Nat) (v0:Option Addr) (v1:Int) (h:AH):Option (Value×AH):=
nw1 h 42 [(vI 0),(vI 0),(vT ⟨#[]⟩),(vL none 0)] fun h1=>
(run (Et base) 133 [(.pointer v0),(vI (9:Int))] h1).bind fun r2=>
((some r2.1).bind (getI .i64)).bind fun n3=>
((if (n3==(0:Int))=true then
some (.inl ([some (.pointer v0),some (vI v1),some (vP (List.length h)),some (vI n3),some (.bool (n3==(0:Int)))],r2.2))
else
(if (n3==(1:Int))=true then
some (.inl ([some (.pointer v0),some (vI v1),some (vP (List.length h)),some (vI n3),some (.bool (n3==(1:Int)))],r2.2))
else
some (.inl ([some (.pointer v0),some (vI v1),some (vP (List.length h)),some (vI n3),some (.bool (n3==(2:Int)))],r2.2))))).bind fun j4=>joinK j4 fun j4=>
j_PIAIB j4.1 fun p5 n6 d7 n8 b9=>
(if b9=true then
(run (Et base) 133 [(.pointer p5),(vI (100:Int))] j4.2).bind fun r10=>
((some r10.1).bind (getI .i64)).bind fun n11=>
nw1 r10.2 3 [(vI (0:Int)),(vI (1:Int)),(vI (-1:Int)),(vI (7:Int)),(vI (1000000:Int)),(vI (-1000000:Int)),(vI n11)] fun h12=>
(run (Et base) 135 [(.pointer p5),(vL (some ⟨(List.length r10.2),0,none⟩) 7)] h12).bind fun r13=>
((some r13.1).bind (getI .i64)).bind fun n14=>
(wr base r13.2 d7.block d7.off [(vI (1:Int)),(vI n14),(vT (⟨#[]⟩:ByteArray)),(vL none 0)]).bind fun h15=>
c_IITL h15 d7.block d7.off fun n16 n17 s18 l19=>
some ((.agg #[(vI n16),(vI n17),(vT s18),(vL l19.1 l19.2)]),h15)
else
((if (n8==(3:Int))=true then
some (.inl ([some (.pointer p5),some (vI n6),some (vA d7),some (vI n8),some (.bool (n8==(3:Int)))],j4.2))
else
some (.inl ([some (.pointer p5),some (vI n6),some (vA d7),some (vI n8),some (.bool (n8==(4:Int)))],j4.2)))).bind fun j20=>joinK j20 fun j20=>
j_PIAIB j20.1 fun p21 n22 d23 n24 b25=>
(if b25=true then
nw1 j20.2 9 [(vT (⟨#[111,107]⟩:ByteArray)),(vT (⟨#[97]⟩:ByteArray)),(vT (⟨#[115,116,111,112]⟩:ByteArray)),(vT (⟨#[104,105,50]⟩:ByteArray))] fun h26=>
(run (Et base) 172 [(.pointer p21),(vL (some ⟨(List.length j20.2),0,none⟩) 4)] h26).bind fun r27=>
((some r27.1).bind getStr).bind fun s28=>
(wr base r27.2 d23.block d23.off [(vI (2:Int)),(vI (0:Int)),(vT s28),(vL none 0)]).bind fun h29=>
c_IITL h29 d23.block d23.off fun n30 n31 s32 l33=>
some ((.agg #[(vI n30),(vI n31),(vT s32),(vL l33.1 l33.2)]),h29)
else
(if (n24==(5:Int))=true then
(run (Et base) 133 [(.pointer p21),(vI (4:Int))] j20.2).bind fun r34=>
((some r34.1).bind (getI .i64)).bind fun n35=>
(wr base r34.2 d23.block d23.off [(vI (3:Int)),(vI n35),(vT (⟨#[]⟩:ByteArray)),(vL none 0)]).bind fun h36=>
c_IITL h36 d23.block d23.off fun n37 n38 s39 l40=>
some ((.agg #[(vI n37),(vI n38),(vT s39),(vL l40.1 l40.2)]),h36)
else
(if (n24==(6:Int))=true then
nw1 j20.2 9 [(vT (⟨#[]⟩:ByteArray)),(vT (⟨#[120]⟩:ByteArray)),(vT (⟨#[0,255]⟩:ByteArray)),(vT (⟨#[104,101,108,108,111]⟩:ByteArray))] fun h41=>
(run (Et base) 172 [(.pointer p21),(vL (some ⟨(List.length j20.2),0,none⟩) 4)] h41).bind fun r42=>
((some r42.1).bind getStr).bind fun s43=>
(wr base r42.2 d23.block d23.off [(vI (6:Int)),(vI (0:Int)),(vT s43),(vL none 0)]).bind fun h44=>
c_IITL h44 d23.block d23.off fun n45 n46 s47 l48=>
some ((.agg #[(vI n45),(vI n46),(vT s47),(vL l48.1 l48.2)]),h44)
else
nw1 j20.2 3 [(vI (4:Int)),(vI (5:Int))] fun h49=>
(run (Et base) 135 [(.pointer p21),(vL (some ⟨(List.length j20.2),0,none⟩) 2)] h49).bind fun r50=>
((some r50.1).bind (getI .i64)).bind fun n51=>
nw1 r50.2 42 [(vI 0),(vI 0),(vT ⟨#[]⟩),(vL none 0)] fun h52=>
(wr base h52 (List.length r50.2) 0 [(vI n51),(vI (0:Int)),(vT (⟨#[]⟩:ByteArray)),(vL none 0)]).bind fun h53=>
(run (Et base) 133 [(.pointer p21),(vI (4:Int))] h53).bind fun r54=>
((some r54.1).bind (getI .i64)).bind fun n55=>
(loopL (B132_0 base) [some (.pointer p21),some (vI n22),some (vA d23),some (vP (List.length r50.2)),some (vI n55)] r54.2).bind fun q56=>
(if q56.1=3 then
j_AA q56.2.1 fun d57 d58=>
c_IITL q56.2.2 d58.block d58.off fun n59 n60 s61 l62=>
(wr base q56.2.2 d57.block d57.off [(vI n59),(vI n60),(vT s61),(vL l62.1 l62.2)]).bind fun h63=>
c_IITL h63 d57.block d57.off fun n64 n65 s66 l67=>
some ((.agg #[(vI n64),(vI n65),(vT s66),(vL l67.1 l67.2)]),h63)
else
none)))))
theorem r132 {base:Nat} {v0:Option Addr} {v1:Int} {h:AH} {r:Value×AH} (hx:qf132 base v0 v1 h=some r):run (Et base) 132 [(.pointer v0),(vI v1)] h=some r:=run_i (an:=a132) Try.func132 (by kernel_rfl) (.trans (by kernel_rfl) hx)
theorem r133 {base:Nat} {v0:Option Addr} {v1:Int} {h:AH} {r:Value×AH} (hx:((if (decide (v1≤(0:Int)))=true then
some ((.int .i64 (0:Int)),h)
else
(if (decide (v1≤(256:Int)))=true then
(run (Et base) 173 [(.pointer v0)] h).bind fun r1=>
((some r1.1).bind (getI .i64)).bind fun n2=>
(if v1=0 then none else
some ((.int .i64 (Int.tmod n2 v1)),r1.2))
else
(run (Et base) 173 [(.pointer v0)] h).bind fun r3=>
((some r3.1).bind (getI .i64)).bind fun n4=>
(run (Et base) 173 [(.pointer v0)] r3.2).bind fun r5=>
((some r5.1).bind (getI .i64)).bind fun n6=>
(run (Et base) 173 [(.pointer v0)] r5.2).bind fun r7=>
((some r7.1).bind (getI .i64)).bind fun n8=>
(if v1=0 then none else
some ((.int .i64 (Int.tmod (IntKind.wrap .i64 ((IntKind.wrap .i64 ((IntKind.wrap .i64 (n4*(65536:Int)))+(IntKind.wrap .i64 (n6*(256:Int)))))+n8)) v1)),r7.2)))))=some r):run (Et base) 133 [(.pointer v0),(vI v1)] h=some r:=run_i (an:=a133) Try.func133 (by kernel_rfl) (.trans (by kernel_rfl) hx)
theorem r135 {base:Nat} {v0:Option Addr} {v1:Option Addr} {v1n:Nat} {h:AH} {r:Value×AH} (hx:((run (Et base) 133 [(.pointer v0),(.int .i64 ((v1n:Nat):Int))] h).bind fun r1=>
((some r1.1).bind (getI .i64)).bind fun n2=>
(if 0≤n2∧n2<((v1n:Nat):Int) then
((v1:Option Addr)).bind fun a3=>
((cell r1.2 a3.block (a3.off+Int.toNat n2*1)).bind (getI .i64)).bind fun n4=>
some ((.int .i64 n4),r1.2)
else none))=some r):run (Et base) 135 [(.pointer v0),(vL v1 v1n)] h=some r:=run_i (an:=a135) Try.func135 (by kernel_rfl) (.trans (by kernel_rfl) hx)
noncomputable def B144_0 (base:Nat):Body:=fun l h=>lay s144_0 l fun s=>exCode (Et base) (run (Et base)) loopL a144_0 (subC [1,0,1,0,0] (bodyC Try.f144)) s h (keepK s144_0 e144_0)
theorem B144_0_eq (base:Nat) (v0:Option Addr) (v0n:Nat) (v3:Int) (h:AH):B144_0 base [some (vL v0 v0n),some (vI v3)] h =
((if (decide (v3<((v0n:Nat):Int)))=true then
((if 0≤v3∧v3<((v0n:Nat):Int) then
((v0:Option Addr)).bind fun a2=>
((cell h a2.block (a2.off+Int.toNat v3*1)).bind getStr).bind fun s3=>
(run (Et base) 183 [(.string s3)] h).bind fun r4=>
((some r4.1).bind getB).bind fun b5=>
(if (!b5)=true then
some (.inl ([some (.slice v0 v0n v0n),some (.int .i64 v3),some (.bool true)],r4.2))
else
(if 0≤v3∧v3<((v0n:Nat):Int) then
((v0:Option Addr)).bind fun a6=>
((cell r4.2 a6.block (a6.off+Int.toNat v3*1)).bind getStr).bind fun s7=>
(run (Et base) 185 [(.slice v0 v0n v0n),(.string s7)] r4.2).bind fun r8=>
((some r8.1).bind (getI .i64)).bind fun n9=>
some (.inl ([some (.slice v0 v0n v0n),some (.int .i64 v3),some (.bool (n9 != v3))],r8.2))
else none))
else none)).bind fun j1=>joinK j1 fun j1=>
((sget j1.1 0).bind getS).bind fun l10=>
((sget (j1.1.tail) 0).bind (getI .i64)).bind fun n11=>
((sget (j1.1.tail.tail) 0).bind getB).bind fun b12=>
(if b12=true then
some (1,[some (.bool false)],j1.2)
else
some (0,[some (.slice l10.1 l10.2 l10.2),some (.int .i64 (IntKind.wrap .i64 (n11+(1:Int))))],j1.2))
else
some (2,[some (.slice v0 v0n v0n)],h)):Option (Nat×Slots×AH)):=by kernel_rfl
theorem r144 {base:Nat} {v0:Option Addr} {v0n:Nat} {h:AH} {r:Value×AH} (hx:((loopL (B144_0 base) [some (.slice v0 v0n v0n),some (.int .i64 (0:Int))] h).bind fun q1=>
(if q1.1=1 then
((sget q1.2.1 0).bind getB).bind fun b2=>
some ((.bool b2),q1.2.2)
else
(if q1.1=2 then
((sget q1.2.1 0).bind getS).bind fun l3=>
some ((.bool (decide (((l3.2:Nat):Int)≤(200:Int)))),q1.2.2)
else
none)))=some r):run (Et base) 144 [(vL v0 v0n)] h=some r:=run_i (an:=a144) Try.func144 (by kernel_rfl) (.trans (by kernel_rfl) hx)
end Go.Proofs.Ytkdenmdijdmnjaa.Am
