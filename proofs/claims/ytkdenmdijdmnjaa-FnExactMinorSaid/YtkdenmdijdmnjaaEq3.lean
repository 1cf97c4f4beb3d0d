/- What each of these functions comes to on the abstract machine, one equation a function and one a loop.
Conditions: none. -/
import Derived.Test.YtkdenmdijdmnjaaTb
set_option linter.unusedVariables false
set_option maxRecDepth 100000
namespace Go.Proofs.Ytkdenmdijdmnjaa.Am
open Go Go.RowKit
noncomputable def B220_0 (base : Nat) : Body:=fun l h=>lay s220_0 l fun s=>exCode (Et base) (run (Et base)) loopL a220_0 (subC [1,1,0,0,0] (bodyC Try.f220)) s h (keepK s220_0 e220_0)
theorem B220_0_eq (base : Nat) (v0 : Option Addr) (v1 : Int) (v2 : Int) (v6 : Addr) (v7 : Addr) (h : AH) : B220_0 base [some (.pointer v0),some (vI v1),some (vI v2),some (vA v6),some (vA v7)] h =
(((v0).bind fun a2=>
((cell h a2.block (a2.off + 3)).bind getB).bind fun b3=>
(if (!b3) = true then
(run (Et base) 191 [(vI (3 : Int)),(vI (0 : Int))] h).bind fun r4=>
((some r4.1).bind (getI .i64)).bind fun n5=>
some (.inl ([some (.pointer v0),some (vI v1),some (vI v2),some (vA v6),some (vA v7),some (.bool (v1 != n5))],r4.2))
else
some (.inl ([some (.pointer v0),some (vI v1),some (vI v2),some (vA v6),some (vA v7),some (.bool false)],h)))).bind fun j1=>joinK j1 fun j1=>
j_PIIAAB j1.1 fun p6 n7 n8 d9 d10 b11=>
(if b11 = true then
(run (Et base) 187 [(vI n7)] j1.2).bind fun r12=>
((some r12.1).bind (getI .i64)).bind fun n13=>
(run (Et base) 233 [(.pointer p6),(vI n13),(vI (2 : Int))] r12.2).bind fun r14=>
((some r14.1).bind getS).bind fun l15=>
((p6).bind fun a17=>
((cell r14.2 a17.block (a17.off + 3)).bind getB).bind fun b18=>
(if b18 = true then
some (.inl ([some (.pointer p6),some (vI n8),some (vA d9),some (vA d10),some (vL l15.1 l15.2),some (.bool true)],r14.2))
else
(run (Et base) 189 [(vI n7)] r14.2).bind fun r19=>
((some r19.1).bind (getI .i64)).bind fun n20=>
(if (n20 != (5 : Int)) = true then
some (.inl ([some (.pointer p6),some (vI n8),some (vA d9),some (vA d10),some (vL l15.1 l15.2),some (.bool true)],r19.2))
else
((cell r19.2 d10.block (d10.off + 3)).bind getS).bind fun l21=>
some (.inl ([some (.pointer p6),some (vI n8),some (vA d9),some (vA d10),some (vL l15.1 l15.2),some (.bool (((l21.2 : Nat) : Int) == (20 : Int)))],r19.2))))).bind fun j16=>joinK j16 fun j16=>
j_PIAALB j16.1 fun p22 n23 d24 d25 l26 b27=>
(if b27 = true then
(p22).bind fun a28=>
(wr base j16.2 a28.block (a28.off + 3) [(.bool true)]).bind fun h29=>
c_IITL h29 d25.block d25.off fun n30 n31 s32 l33=>
(wr base h29 d24.block d24.off [(vI n30),(vI n31),(vT s32),(vL l33.1 l33.2)]).bind fun h34=>
some (1,[some (vA d24)],h34)
else
((cell j16.2 d25.block (d25.off + 3)).bind getS).bind fun l35=>
(if 0≤(0 : Int)∧(0 : Int) < ((l26.2 : Nat) : Int) then
((l26.1 : Option Addr)).bind fun a36=>
((cell j16.2 a36.block (a36.off + Int.toNat (0 : Int) * 1)).bind (getI .i64)).bind fun n37=>
(run (Et base) 200 [(.pointer p22),(vI n37),(vI (IntKind.wrap .i64 (n23 - (1 : Int))))] j16.2).bind fun r38=>
gG (some r38.1) 4 fun l39=>
l_IITL l39 fun n40 n41 s42 l43=>
(gate (sameA j16.2 r38.2 (some ⟨d25.block,(d25.off + 3),none⟩) 1)
((gate (neA (some ⟨d25.block,(d25.off + 3),none⟩) (List.length r38.2))
(nw1 r38.2 42 [(vI n40),(vI n41),(vT s42),(vL l43.1 l43.2)] fun h44=>
(app base h44 42 4 56 l35.1 l35.2 (rawAt h44 (some ⟨(List.length r38.2),0,none⟩) (1 * 4)) 1).bind fun p45=>
((some p45.1).bind getS).bind fun l46=>
(wr base p45.2 d25.block (d25.off + 3) [(vL l46.1 l46.2)]).bind fun h47=>
(if 0≤(1 : Int)∧(1 : Int) < ((l26.2 : Nat) : Int) then
((l26.1 : Option Addr)).bind fun a48=>
((cell h47 a48.block (a48.off + Int.toNat (1 : Int) * 1)).bind (getI .i64)).bind fun n49=>
some (0,[some (.pointer p22),some (vI n49),some (vI n23),some (vA d24),some (vA d25)],h47)
else none)))))
else none))
else
some (2,[some (vA d9),some (vA d10)],j1.2)) : Option (Nat × Slots × AH)):=by kernel_rfl
theorem r220 {base : Nat} {v0 : Option Addr} {v1 : Int} {v2 : Int} {h : AH} {r : Value × AH} (hx : (nw1 h 42 [(vI 0),(vI 0),(vT ⟨#[]⟩),(vL none 0)] fun h1=>
nw1 h1 42 [(vI 0),(vI 0),(vT ⟨#[]⟩),(vL none 0)] fun h2=>
(wr base h2 (List.length h1) 0 [(vI (5 : Int)),(vI (0 : Int)),(vT (⟨#[]⟩ : ByteArray)),(vL none 0)]).bind fun h3=>
(loopL (B220_0 base) [some (.pointer v0),some (vI v1),some (vI v2),some (vP (List.length h)),some (vP (List.length h1))] h3).bind fun q4=>
(if q4.1 = 1 then
((sget q4.2.1 0).bind getA).bind fun d5=>
c_IITL q4.2.2 d5.block d5.off fun n6 n7 s8 l9=>
some ((.agg #[(vI n6),(vI n7),(vT s8),(vL l9.1 l9.2)]),q4.2.2)
else
(if q4.1 = 2 then
j_AA q4.2.1 fun d10 d11=>
c_IITL q4.2.2 d11.block d11.off fun n12 n13 s14 l15=>
(wr base q4.2.2 d10.block d10.off [(vI n12),(vI n13),(vT s14),(vL l15.1 l15.2)]).bind fun h16=>
c_IITL h16 d10.block d10.off fun n17 n18 s19 l20=>
some ((.agg #[(vI n17),(vI n18),(vT s19),(vL l20.1 l20.2)]),h16)
else
none))) = some r) : run (Et base) 220 [(.pointer v0),(vI v1),(vI v2)] h = some r:=run_i (an:=a220) Try.func220 (by kernel_rfl) (.trans (by kernel_rfl) hx)
noncomputable def B221_0 (base : Nat) : Body:=fun l h=>lay s221_0 l fun s=>exCode (Et base) (run (Et base)) loopL a221_0 (subC [1,1,1,1,0,1,0,0] (bodyC Try.f221)) s h (keepK s221_0 e221_0)
theorem B221_0_eq (base : Nat) (v0 : Option Addr) (v2 : Int) (v6 : Addr) (v8 : Option Addr) (v8n : Nat) (v9 : Addr) (v10 : Int) (h : AH) : B221_0 base [some (.pointer v0),some (vI v2),some (vA v6),some (vL v8 v8n),some (vA v9),some (vI v10)] h =
(((if (decide (v10 < ((v8n : Nat) : Int))) = true then
(v0).bind fun a2=>
((cell h a2.block (a2.off + 3)).bind getB).bind fun b3=>
some (.inl ([some (.pointer v0),some (vI v2),some (vA v6),some (vL v8 v8n),some (vA v9),some (vI v10),some (.bool (!b3))],h))
else
some (.inl ([some (.pointer v0),some (vI v2),some (vA v6),some (vL v8 v8n),some (vA v9),some (vI v10),some (.bool false)],h)))).bind fun j1=>joinK j1 fun j1=>
j_PIALAIB j1.1 fun p4 n5 d6 l7 d8 n9 b10=>
(if b10 = true then
((cell j1.2 d8.block (d8.off + 3)).bind getS).bind fun l11=>
(if 0≤n9∧n9 < ((l7.2 : Nat) : Int) then
((l7.1 : Option Addr)).bind fun a12=>
((cell j1.2 a12.block (a12.off + Int.toNat n9 * 1)).bind (getI .i64)).bind fun n13=>
(run (Et base) 200 [(.pointer p4),(vI n13),(vI (IntKind.wrap .i64 (n5 - (1 : Int))))] j1.2).bind fun r14=>
gG (some r14.1) 4 fun l15=>
l_IITL l15 fun n16 n17 s18 l19=>
(gate (sameA j1.2 r14.2 (some ⟨d8.block,(d8.off + 3),none⟩) 1)
((gate (neA (some ⟨d8.block,(d8.off + 3),none⟩) (List.length r14.2))
(nw1 r14.2 42 [(vI n16),(vI n17),(vT s18),(vL l19.1 l19.2)] fun h20=>
(app base h20 42 4 56 l11.1 l11.2 (rawAt h20 (some ⟨(List.length r14.2),0,none⟩) (1 * 4)) 1).bind fun p21=>
((some p21.1).bind getS).bind fun l22=>
(wr base p21.2 d8.block (d8.off + 3) [(vL l22.1 l22.2)]).bind fun h23=>
some (0,[some (.pointer p4),some (vI n5),some (vA d6),some (vL l7.1 l7.2),some (vA d8),some (vI (IntKind.wrap .i64 (n9 + (1 : Int))))],h23)))))
else none)
else
some (2,[some (vA d6),some (vA d8)],j1.2)) : Option (Nat × Slots × AH)):=by kernel_rfl
theorem r221 {base : Nat} {v0 : Option Addr} {v1 : Int} {v2 : Int} {h : AH} {r : Value × AH} (hx : (nw1 h 42 [(vI 0),(vI 0),(vT ⟨#[]⟩),(vL none 0)] fun h1=>
(run (Et base) 234 [(.pointer v0),(vI v1),(vI (8 : Int))] h1).bind fun r2=>
((some r2.1).bind (getI .i64)).bind fun n3=>
(run (Et base) 233 [(.pointer v0),(vI (IntKind.wrap .i64 (v1 + (1 : Int)))),(vI n3)] r2.2).bind fun r4=>
((some r4.1).bind getS).bind fun l5=>
nw1 r4.2 42 [(vI 0),(vI 0),(vT ⟨#[]⟩),(vL none 0)] fun h6=>
(wr base h6 (List.length r4.2) 0 [(vI (4 : Int)),(vI (0 : Int)),(vT (⟨#[]⟩ : ByteArray)),(vL none 0)]).bind fun h7=>
(loopL (B221_0 base) [some (.pointer v0),some (vI v2),some (vP (List.length h)),some (vL l5.1 l5.2),some (vP (List.length r4.2)),some (vI (0 : Int))] h7).bind fun q8=>
(if q8.1 = 2 then
j_AA q8.2.1 fun d9 d10=>
c_IITL q8.2.2 d10.block d10.off fun n11 n12 s13 l14=>
(wr base q8.2.2 d9.block d9.off [(vI n11),(vI n12),(vT s13),(vL l14.1 l14.2)]).bind fun h15=>
c_IITL h15 d9.block d9.off fun n16 n17 s18 l19=>
some ((.agg #[(vI n16),(vI n17),(vT s18),(vL l19.1 l19.2)]),h15)
else
none)) = some r) : run (Et base) 221 [(.pointer v0),(vI v1),(vI v2)] h = some r:=run_i (an:=a221) Try.func221 (by kernel_rfl) (.trans (by kernel_rfl) hx)
noncomputable def B222_0 (base : Nat) : Body:=fun l h=>lay s222_0 l fun s=>exCode (Et base) (run (Et base)) loopL a222_0 (subC [1,1,1,1,0,1,0,0] (bodyC Try.f222)) s h (keepK s222_0 e222_0)
theorem B222_0_eq (base : Nat) (v0 : Option Addr) (v4 : Addr) (v6 : Option Addr) (v6n : Nat) (v7 : Option Addr) (v7n : Nat) (v8 : Int) (h : AH) : B222_0 base [some (.pointer v0),some (vA v4),some (vL v6 v6n),some (vL v7 v7n),some (vI v8)] h =
((if (decide (v8 < ((v6n : Nat) : Int))) = true then
((if 0≤v8∧v8 < ((v6n : Nat) : Int) then
((v6 : Option Addr)).bind fun a2=>
((cell h a2.block (a2.off + Int.toNat v8 * 1)).bind (getI .i64)).bind fun n3=>
(run (Et base) 90 [(vI n3),(vI (0 : Int)),(vI (255 : Int))] h).bind fun r4=>
((some r4.1).bind getB).bind fun b5=>
(if (!b5) = true then
(v0).bind fun a6=>
(wr base r4.2 a6.block (a6.off + 3) [(.bool true)]).bind fun h7=>
some (.inl ([some (.pointer v0),some (vA v4),some (vL v6 v6n),some (vL v7 v7n),some (vI v8)],h7))
else
some (.inl ([some (.pointer v0),some (vA v4),some (vL v6 v6n),some (vL v7 v7n),some (vI v8)],r4.2)))
else none)).bind fun j1=>joinK j1 fun j1=>
j_PALLI j1.1 fun p8 d9 l10 l11 n12=>
(if 0≤n12∧n12 < ((l10.2 : Nat) : Int) then
((l10.1 : Option Addr)).bind fun a13=>
((cell j1.2 a13.block (a13.off + Int.toNat n12 * 1)).bind (getI .i64)).bind fun n14=>
nw1 j1.2 5 [(.int .u8 (IntKind.wrap .u8 n14))] fun h15=>
(app base h15 5 1 1 l11.1 l11.2 (rawAt h15 (some ⟨(List.length j1.2),0,none⟩) (1 * 1)) 1).bind fun p16=>
((some p16.1).bind getS).bind fun l17=>
some (0,[some (.pointer p8),some (vA d9),some (vL l10.1 l10.2),some (vL l17.1 l17.2),some (vI (IntKind.wrap .i64 (n12 + (1 : Int))))],p16.2)
else none)
else
some (2,[some (vA v4),some (vL v7 v7n)],h)) : Option (Nat × Slots × AH)):=by kernel_rfl
theorem r222 {base : Nat} {v0 : Option Addr} {v1 : Int} {h : AH} {r : Value × AH} (hx : ((some (h ++ [some ⟨[(.int .i64 0),(.int .i64 0),(.string ⟨#[]⟩),(.slice none 0 0)],42⟩])).bind fun h1=>
(run (Et base) 234 [(.pointer v0),(.int .i64 v1),(.int .i64 (40 : Int))] h1).bind fun r2=>
((some r2.1).bind (getI .i64)).bind fun n3=>
(run (Et base) 233 [(.pointer v0),(.int .i64 (IntKind.wrap .i64 (v1 + (1 : Int)))),(.int .i64 n3)] r2.2).bind fun r4=>
((some r4.1).bind getS).bind fun l5=>
(some (r4.2 ++ [some ⟨[],5⟩])).bind fun h6=>
(loopL (B222_0 base) [some (.pointer v0),some (.pointer (some ⟨(List.length h),0,none⟩)),some (.slice l5.1 l5.2 l5.2),some (.slice (some ⟨(List.length r4.2),0,none⟩) 0 0),some (.int .i64 (0 : Int))] h6).bind fun q7=>
(if q7.1 = 2 then
((sget q7.2.1 0).bind getA).bind fun d8=>
((sget (q7.2.1.tail) 0).bind getS).bind fun l9=>
((rawAt q7.2.2 l9.1 l9.2).bind u8s).bind fun z10=>
(wr base q7.2.2 d8.block d8.off [(.int .i64 (6 : Int)),(.int .i64 (0 : Int)),(.string (bstr z10)),(.slice none 0 0)]).bind fun h11=>
((cell h11 d8.block d8.off).bind (getI .i64)).bind fun n12=>
((cell h11 d8.block (d8.off + 1)).bind (getI .i64)).bind fun n13=>
((cell h11 d8.block ((d8.off + 1) + 1)).bind getStr).bind fun s14=>
((cell h11 d8.block (((d8.off + 1) + 1) + 1)).bind getS).bind fun l15=>
some ((.agg #[(.int .i64 n12),(.int .i64 n13),(.string s14),(.slice l15.1 l15.2 l15.2)]),h11)
else
none)) = some r) : run (Et base) 222 [(.pointer v0),(vI v1)] h = some r:=run_i (an:=a222) Try.func222 (by kernel_rfl) (.trans (by kernel_rfl) hx)
theorem r232 {base : Nat} {v0 : Option Addr} {v1 : Int} {h : AH} {r : Value × AH} (hx : ((v0).bind fun a1=>
((cell h a1.block (a1.off + 0)).bind getF).bind fun f2=>
(callU (Et base) (run (Et base)) f2.1 (f2.2.1.toList ++ [(.int .i64 v1)] ++ f2.2.2.toList) h).bind fun r3=>
(getTup 2 r3.1).bind fun l4=>
((l4[0]?).bind (getI .i64)).bind fun n5=>
((l4[1]?).bind getB).bind fun b6=>
((v0).bind fun a8=>
((cell r3.2 a8.block (a8.off + 3)).bind getB).bind fun b9=>
(if b9 = true then
(v0).bind fun a10=>
(wr base r3.2 a10.block (a10.off + 3) [(.bool true)]).bind fun h11=>
some (.inl ([some (.int .i64 n5)],h11))
else
(v0).bind fun a12=>
(wr base r3.2 a12.block (a12.off + 3) [(.bool (!b6))]).bind fun h13=>
some (.inl ([some (.int .i64 n5)],h13)))).bind fun j7=>joinK j7 fun j7=>
((sget j7.1 0).bind (getI .i64)).bind fun n14=>
some ((.int .i64 n14),j7.2)) = some r) : run (Et base) 232 [(.pointer v0),(vI v1)] h = some r:=run_i (an:=a232) Try.func232 (by kernel_rfl) (.trans (by kernel_rfl) hx)
theorem r233 {base : Nat} {v0 : Option Addr} {v1 : Int} {v2 : Int} {h : AH} {r : Value × AH} (hx : (((v0).bind fun a2=>
((cell h a2.block (a2.off + 3)).bind getB).bind fun b3=>
(if b3 = true then
some (.inl ([some (.pointer v0),some (vI v1),some (vI v2),some (.bool true)],h))
else
(v0).bind fun a4=>
((cell h a4.block (a4.off + 0)).bind getS).bind fun l5=>
(run (Et base) 90 [(vI v1),(vI (0 : Int)),(vI ((l5.2 : Nat) : Int))] h).bind fun r6=>
((some r6.1).bind getB).bind fun b7=>
(if (!b7) = true then
some (.inl ([some (.pointer v0),some (vI v1),some (vI v2),some (.bool true)],r6.2))
else
(v0).bind fun a8=>
((cell r6.2 a8.block (a8.off + 0)).bind getS).bind fun l9=>
(run (Et base) 90 [(vI v2),(vI (0 : Int)),(vI (IntKind.wrap .i64 (((l9.2 : Nat) : Int) - v1)))] r6.2).bind fun r10=>
((some r10.1).bind getB).bind fun b11=>
some (.inl ([some (.pointer v0),some (vI v1),some (vI v2),some (.bool (!b11))],r10.2))))).bind fun j1=>joinK j1 fun j1=>
j_PIIB j1.1 fun p12 n13 n14 b15=>
(if b15 = true then
(p12).bind fun a16=>
(wr base j1.2 a16.block (a16.off + 3) [(.bool true)]).bind fun h17=>
nw1 h17 3 [] fun h18=>
some ((vL (some ⟨(List.length h17),0,none⟩) 0),h18)
else
(p12).bind fun a19=>
((cell j1.2 a19.block (a19.off + 0)).bind getS).bind fun l20=>
(if 0≤n13∧n13≤(IntKind.wrap .i64 (n13 + n14))∧(IntKind.wrap .i64 (n13 + n14))≤((l20.2 : Nat) : Int)∧okTy base j1.2 l20.1 3 (Int.toNat n13) = true then
some ((.slice (shiftA l20.1 (Int.toNat n13 * 1)) (Int.toNat (IntKind.wrap .i64 (n13 + n14)) - Int.toNat n13) (Int.toNat (IntKind.wrap .i64 (n13 + n14)) - Int.toNat n13)),j1.2)
else none))) = some r) : run (Et base) 233 [(.pointer v0),(vI v1),(vI v2)] h = some r:=run_i (an:=a233) Try.func233 (by kernel_rfl) (.trans (by kernel_rfl) hx)
theorem r234 {base : Nat} {v0 : Option Addr} {v1 : Int} {v2 : Int} {h : AH} {r : Value × AH} (hx : ((run (Et base) 233 [(.pointer v0),(.int .i64 v1),(.int .i64 (1 : Int))] h).bind fun r1=>
((some r1.1).bind getS).bind fun l2=>
((if (((l2.2 : Nat) : Int) == (0 : Int)) = true then
some (.inl ([some (.pointer v0),some (.slice l2.1 l2.2 l2.2),some (.bool true)],r1.2))
else
(if 0≤(0 : Int)∧(0 : Int) < ((l2.2 : Nat) : Int) then
((l2.1 : Option Addr)).bind fun a4=>
((cell r1.2 a4.block (a4.off + Int.toNat (0 : Int) * 1)).bind (getI .i64)).bind fun n5=>
(run (Et base) 90 [(.int .i64 n5),(.int .i64 (0 : Int)),(.int .i64 v2)] r1.2).bind fun r6=>
((some r6.1).bind getB).bind fun b7=>
some (.inl ([some (.pointer v0),some (.slice l2.1 l2.2 l2.2),some (.bool (!b7))],r6.2))
else none))).bind fun j3=>joinK j3 fun j3=>
((sget j3.1 0).bind getP).bind fun p8=>
((sget (j3.1.tail) 0).bind getS).bind fun l9=>
((sget (j3.1.tail.tail) 0).bind getB).bind fun b10=>
(if b10 = true then
(p8).bind fun a11=>
(wr base j3.2 a11.block (a11.off + 3) [(.bool true)]).bind fun h12=>
some ((.int .i64 (0 : Int)),h12)
else
(if 0≤(0 : Int)∧(0 : Int) < ((l9.2 : Nat) : Int) then
((l9.1 : Option Addr)).bind fun a13=>
((cell j3.2 a13.block (a13.off + Int.toNat (0 : Int) * 1)).bind (getI .i64)).bind fun n14=>
some ((.int .i64 n14),j3.2)
else none))) = some r) : run (Et base) 234 [(.pointer v0),(vI v1),(vI v2)] h = some r:=run_i (an:=a234) Try.func234 (by kernel_rfl) (.trans (by kernel_rfl) hx)
end Go.Proofs.Ytkdenmdijdmnjaa.Am
