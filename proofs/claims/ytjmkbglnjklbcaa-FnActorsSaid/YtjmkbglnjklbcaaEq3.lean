/- What each of these functions comes to on the abstract machine, one equation a function and one a loop.
Conditions: none. -/
import Derived.Test.YtjmkbglnjklbcaaTb
set_option linter.unusedVariables false
set_option maxRecDepth 100000
namespace Go.Proofs.Ytjmkbglnjklbcaa.Am
open Go Go.RowKit
noncomputable def B211_0 (base : Nat) : Body := fun l h => lay s211_0 l fun s => exCode (Et base) (run (Et base)) loopL a211_0 (subC [1, 1, 1, 0, 1, 0, 0] (bodyC Try.f211)) s h (keepK s211_0 e211_0)
theorem B211_0_eq (base : Nat) (v0 : Option Addr) (v1 : Int) (v4 : Addr) (v5 : Addr) (v6 : Int) (h : AH) : B211_0 base [some (.pointer v0), some (vI v1), some (vA v4), some (vA v5), some (vI v6)] h =
(((if (decide (v6 > (0 : Int))) = true then
some (.inl ([some (.pointer v0), some (vI v1), some (vA v4), some (vA v5), some (vI v6), some (.bool (decide (v1 > (0 : Int))))], h))
else
some (.inl ([some (.pointer v0), some (vI v1), some (vA v4), some (vA v5), some (vI v6), some (.bool false)], h)))).bind fun j1 => joinK j1 fun j1 =>
j_PIAAIB j1.1 fun p2 n3 d4 d5 n6 b7 =>
(if b7 = true then
((cell j1.2 d5.block (d5.off + 3)).bind getS).bind fun l8 =>
(run (Et base) 211 [(.pointer p2), (vI (IntKind.wrap .i64 (n3 - (1 : Int))))] j1.2).bind fun r9 =>
gG (some r9.1) 4 fun l10 =>
l_IITL l10 fun n11 n12 s13 l14 =>
(gate (sameA j1.2 r9.2 (some ⟨d5.block, (d5.off + 3), none⟩) 1)
((gate (neA (some ⟨d5.block, (d5.off + 3), none⟩) (List.length r9.2))
(nw1 r9.2 39 [(vI n11), (vI n12), (vT s13), (vL l14.1 l14.2)] fun h15 =>
(app base h15 39 4 56 l8.1 l8.2 (rawAt h15 (some ⟨(List.length r9.2), 0, none⟩) (1 * 4)) 1).bind fun p16 =>
((some p16.1).bind getS).bind fun l17 =>
(wr base p16.2 d5.block (d5.off + 3) [(vL l17.1 l17.2)]).bind fun h18 =>
some (0, [some (.pointer p2), some (vI n3), some (vA d4), some (vA d5), some (vI (IntKind.wrap .i64 (n6 - (1 : Int))))], h18)))))
else
some (3, [some (vA d4), some (vA d5)], j1.2)) : Option (Nat × Slots × AH)) := by kernel_rfl
noncomputable abbrev qf211 (base : Nat) (v0 : Option Addr) (v1 : Int) (h : AH) : Option (Value × AH) :=
nw1 h 39 [(vI 0), (vI 0), (vT ⟨#[]⟩), (vL none 0)] fun h1 =>
(run (Et base) 158 [(.pointer v0), (vI (9 : Int))] h1).bind fun r2 =>
((some r2.1).bind (getI .i64)).bind fun n3 =>
((if (n3 == (0 : Int)) = true then
some (.inl ([some (.pointer v0), some (vI v1), some (vP (List.length h)), some (vI n3), some (.bool (n3 == (0 : Int)))], r2.2))
else
(if (n3 == (1 : Int)) = true then
some (.inl ([some (.pointer v0), some (vI v1), some (vP (List.length h)), some (vI n3), some (.bool (n3 == (1 : Int)))], r2.2))
else
some (.inl ([some (.pointer v0), some (vI v1), some (vP (List.length h)), some (vI n3), some (.bool (n3 == (2 : Int)))], r2.2))))).bind fun j4 => joinK j4 fun j4 =>
j_PIAIB j4.1 fun p5 n6 d7 n8 b9 =>
(if b9 = true then
(run (Et base) 158 [(.pointer p5), (vI (100 : Int))] j4.2).bind fun r10 =>
((some r10.1).bind (getI .i64)).bind fun n11 =>
nw1 r10.2 3 [(vI (0 : Int)), (vI (1 : Int)), (vI (-1 : Int)), (vI (7 : Int)), (vI (1000000 : Int)), (vI (-1000000 : Int)), (vI n11)] fun h12 =>
(run (Et base) 93 [(.pointer p5), (vL (some ⟨(List.length r10.2), 0, none⟩) 7)] h12).bind fun r13 =>
((some r13.1).bind (getI .i64)).bind fun n14 =>
(wr base r13.2 d7.block d7.off [(vI (1 : Int)), (vI n14), (vT (⟨#[]⟩ : ByteArray)), (vL none 0)]).bind fun h15 =>
c_IITL h15 d7.block d7.off fun n16 n17 s18 l19 =>
some ((.agg #[(vI n16), (vI n17), (vT s18), (vL l19.1 l19.2)]), h15)
else
((if (n8 == (3 : Int)) = true then
some (.inl ([some (.pointer p5), some (vI n6), some (vA d7), some (vI n8), some (.bool (n8 == (3 : Int)))], j4.2))
else
some (.inl ([some (.pointer p5), some (vI n6), some (vA d7), some (vI n8), some (.bool (n8 == (4 : Int)))], j4.2)))).bind fun j20 => joinK j20 fun j20 =>
j_PIAIB j20.1 fun p21 n22 d23 n24 b25 =>
(if b25 = true then
nw1 j20.2 9 [(vT (⟨#[111, 107]⟩ : ByteArray)), (vT (⟨#[97]⟩ : ByteArray)), (vT (⟨#[115, 116, 111, 112]⟩ : ByteArray)), (vT (⟨#[104, 105, 50]⟩ : ByteArray))] fun h26 =>
(run (Et base) 190 [(.pointer p21), (vL (some ⟨(List.length j20.2), 0, none⟩) 4)] h26).bind fun r27 =>
((some r27.1).bind getStr).bind fun s28 =>
(wr base r27.2 d23.block d23.off [(vI (2 : Int)), (vI (0 : Int)), (vT s28), (vL none 0)]).bind fun h29 =>
c_IITL h29 d23.block d23.off fun n30 n31 s32 l33 =>
some ((.agg #[(vI n30), (vI n31), (vT s32), (vL l33.1 l33.2)]), h29)
else
(if (n24 == (5 : Int)) = true then
(run (Et base) 158 [(.pointer p21), (vI (4 : Int))] j20.2).bind fun r34 =>
((some r34.1).bind (getI .i64)).bind fun n35 =>
(wr base r34.2 d23.block d23.off [(vI (3 : Int)), (vI n35), (vT (⟨#[]⟩ : ByteArray)), (vL none 0)]).bind fun h36 =>
c_IITL h36 d23.block d23.off fun n37 n38 s39 l40 =>
some ((.agg #[(vI n37), (vI n38), (vT s39), (vL l40.1 l40.2)]), h36)
else
(if (n24 == (6 : Int)) = true then
nw1 j20.2 9 [(vT (⟨#[]⟩ : ByteArray)), (vT (⟨#[120]⟩ : ByteArray)), (vT (⟨#[0, 255]⟩ : ByteArray)), (vT (⟨#[104, 101, 108, 108, 111]⟩ : ByteArray))] fun h41 =>
(run (Et base) 190 [(.pointer p21), (vL (some ⟨(List.length j20.2), 0, none⟩) 4)] h41).bind fun r42 =>
((some r42.1).bind getStr).bind fun s43 =>
(wr base r42.2 d23.block d23.off [(vI (6 : Int)), (vI (0 : Int)), (vT s43), (vL none 0)]).bind fun h44 =>
c_IITL h44 d23.block d23.off fun n45 n46 s47 l48 =>
some ((.agg #[(vI n45), (vI n46), (vT s47), (vL l48.1 l48.2)]), h44)
else
nw1 j20.2 3 [(vI (4 : Int)), (vI (5 : Int))] fun h49 =>
(run (Et base) 93 [(.pointer p21), (vL (some ⟨(List.length j20.2), 0, none⟩) 2)] h49).bind fun r50 =>
((some r50.1).bind (getI .i64)).bind fun n51 =>
nw1 r50.2 39 [(vI 0), (vI 0), (vT ⟨#[]⟩), (vL none 0)] fun h52 =>
(wr base h52 (List.length r50.2) 0 [(vI n51), (vI (0 : Int)), (vT (⟨#[]⟩ : ByteArray)), (vL none 0)]).bind fun h53 =>
(run (Et base) 158 [(.pointer p21), (vI (4 : Int))] h53).bind fun r54 =>
((some r54.1).bind (getI .i64)).bind fun n55 =>
(loopL (B211_0 base) [some (.pointer p21), some (vI n22), some (vA d23), some (vP (List.length r50.2)), some (vI n55)] r54.2).bind fun q56 =>
(if q56.1 = 3 then
j_AA q56.2.1 fun d57 d58 =>
c_IITL q56.2.2 d58.block d58.off fun n59 n60 s61 l62 =>
(wr base q56.2.2 d57.block d57.off [(vI n59), (vI n60), (vT s61), (vL l62.1 l62.2)]).bind fun h63 =>
c_IITL h63 d57.block d57.off fun n64 n65 s66 l67 =>
some ((.agg #[(vI n64), (vI n65), (vT s66), (vL l67.1 l67.2)]), h63)
else
none)))))
theorem r211 {base : Nat} {v0 : Option Addr} {v1 : Int} {h : AH} {r : Value × AH} (hx : qf211 base v0 v1 h = some r) : run (Et base) 211 [(.pointer v0), (vI v1)] h = some r := run_i (an := a211) Try.func211 (by kernel_rfl) (.trans (by kernel_rfl) hx)
noncomputable def B212_0 (base : Nat) : Body := fun l h => lay s212_0 l fun s => exCode (Et base) (run (Et base)) loopL a212_0 (subC [1, 1, 0, 1, 0, 1, 1, 1, 1, 1, 1, 1, 1, 1, 0, 1, 0, 0] (bodyC Try.f212)) s h (keepK s212_0 e212_0)
theorem B212_0_eq (base : Nat) (v3 : Addr) (v4 : Addr) (v5 : Int) (h : AH) : B212_0 base [some (vA v3), some (vA v4), some (vI v5)] h =
((if (decide (v5 < (6 : Int))) = true then
((cell h v3.block v3.off).bind (getI .i64)).bind fun n1 =>
((cell h v3.block (v3.off + 1)).bind (getI .i64)).bind fun n2 =>
((cell h v3.block ((v3.off + 1) + 1)).bind getStr).bind fun s3 =>
((cell h v3.block (((v3.off + 1) + 1) + 1)).bind getS).bind fun l4 =>
(some (h ++ [some ⟨[(.int .i64 0), (.int .i64 0), (.string ⟨#[]⟩), (.slice none 0 0)], 39⟩])).bind fun h5 =>
(wr base h5 (List.length h) 0 [(.int .i64 n1), (.int .i64 n2), (.string s3), (.slice l4.1 l4.2 l4.2)]).bind fun h6 =>
((cell h6 (List.length h) 0).bind (getI .i64)).bind fun n7 =>
((cell h6 (List.length h) 1).bind (getI .i64)).bind fun n8 =>
((cell h6 (List.length h) 2).bind getStr).bind fun s9 =>
((cell h6 (List.length h) 3).bind getS).bind fun l10 =>
(some (h6 ++ [some ⟨[(.int .i64 n7), (.int .i64 n8), (.string s9), (.slice l10.1 l10.2 l10.2)], 39⟩])).bind fun h11 =>
(wr base h11 v3.block v3.off [(.int .i64 (4 : Int)), (.int .i64 (0 : Int)), (.string (⟨#[]⟩ : ByteArray)), (.slice (some ⟨(List.length h6), 0, none⟩) 1 1)]).bind fun h12 =>
some (0, [some (.pointer (some v3)), some (.pointer (some v4)), some (.int .i64 (IntKind.wrap .i64 (v5 + (1 : Int))))], h12)
else
some (3, [some (.pointer (some v3)), some (.pointer (some v4))], h)) : Option (Nat × Slots × AH)) := by kernel_rfl
noncomputable abbrev qf212 (base : Nat) (v0 : Option Addr) (v1_0 : Int) (v1_1 : Int) (v1_2 : ByteArray) (v1_3 : Option Addr) (v1_3n : Nat) (h : AH) : Option (Value × AH) :=
nw1 h 39 [(vI v1_0), (vI v1_1), (vT v1_2), (vL v1_3 v1_3n)] fun h1 =>
nw1 h1 39 [(vI 0), (vI 0), (vT ⟨#[]⟩), (vL none 0)] fun h2 =>
c_IITL h2 (List.length h) 0 fun n3 n4 s5 l6 =>
(run (Et base) 221 [(.agg #[(vI n3), (vI n4), (vT s5), (vL l6.1 l6.2)])] h2).bind fun r7 =>
gG (some r7.1) 4 fun l8 =>
l_IITL l8 fun n9 n10 s11 l12 =>
(wr base r7.2 (List.length h) 0 [(vI n9), (vI n10), (vT s11), (vL l12.1 l12.2)]).bind fun h13 =>
((run (Et base) 158 [(.pointer v0), (vI (6 : Int))] h13).bind fun r15 =>
((some r15.1).bind (getI .i64)).bind fun n16 =>
(if (n16 == (0 : Int)) = true then
(run (Et base) 158 [(.pointer v0), (vI (8 : Int))] r15.2).bind fun r17 =>
((some r17.1).bind (getI .i64)).bind fun n18 =>
(wr base r17.2 (List.length h) 0 [(vI n18)]).bind fun h19 =>
some (.inl ([some (vP (List.length h)), some (vP (List.length h1))], h19))
else
(if (n16 == (1 : Int)) = true then
nw1 r15.2 3 [(vI (-1 : Int)), (vI (1000001 : Int)), (vI (100000 : Int)), (vI (3 : Int))] fun h20 =>
(run (Et base) 93 [(.pointer v0), (vL (some ⟨(List.length r15.2), 0, none⟩) 4)] h20).bind fun r21 =>
((some r21.1).bind (getI .i64)).bind fun n22 =>
(wr base r21.2 (List.length h) 1 [(vI n22)]).bind fun h23 =>
some (.inl ([some (vP (List.length h)), some (vP (List.length h1))], h23))
else
(if (n16 == (2 : Int)) = true then
nw1 r15.2 9 [(vT (⟨#[]⟩ : ByteArray)), (vT (⟨#[65]⟩ : ByteArray)), (vT (⟨#[120]⟩ : ByteArray)), (vT (⟨#[116, 104, 105, 114, 116, 101, 101, 110, 98, 121, 116, 101, 115]⟩ : ByteArray))] fun h24 =>
(run (Et base) 190 [(.pointer v0), (vL (some ⟨(List.length r15.2), 0, none⟩) 4)] h24).bind fun r25 =>
((some r25.1).bind getStr).bind fun s26 =>
(wr base r25.2 (List.length h) 2 [(vT s26)]).bind fun h27 =>
some (.inl ([some (vP (List.length h)), some (vP (List.length h1))], h27))
else
(if (n16 == (3 : Int)) = true then
((cell r15.2 (List.length h) 3).bind getS).bind fun l28 =>
nw1 r15.2 39 [(vI (1 : Int)), (vI (4 : Int)), (vT (⟨#[]⟩ : ByteArray)), (vL none 0)] fun h29 =>
(app base h29 39 4 56 l28.1 l28.2 (rawAt h29 (some ⟨(List.length r15.2), 0, none⟩) (1 * 4)) 1).bind fun p30 =>
((some p30.1).bind getS).bind fun l31 =>
(wr base p30.2 (List.length h) 3 [(vL l31.1 l31.2)]).bind fun h32 =>
some (.inl ([some (vP (List.length h)), some (vP (List.length h1))], h32))
else
(if (n16 == (4 : Int)) = true then
(loopL (B212_0 base) [some (vP (List.length h)), some (vP (List.length h1)), some (vI (0 : Int))] r15.2).bind fun q33 =>
(if q33.1 = 3 then
j_AA q33.2.1 fun d34 d35 =>
some (.inl ([some (vA d34), some (vA d35)], q33.2.2))
else
none)
else
some (.inl ([some (vP (List.length h)), some (vP (List.length h1))], r15.2)))))))).bind fun j14 => joinK j14 fun j14 =>
j_AA j14.1 fun d36 d37 =>
c_IITL j14.2 d36.block d36.off fun n38 n39 s40 l41 =>
(wr base j14.2 d37.block d37.off [(vI n38), (vI n39), (vT s40), (vL l41.1 l41.2)]).bind fun h42 =>
c_IITL h42 d37.block d37.off fun n43 n44 s45 l46 =>
some ((.agg #[(vI n43), (vI n44), (vT s45), (vL l46.1 l46.2)]), h42)
theorem r212 {base : Nat} {v0 : Option Addr} {v1_0 : Int} {v1_1 : Int} {v1_2 : ByteArray} {v1_3 : Option Addr} {v1_3n : Nat} {h : AH} {r : Value × AH} (hx : qf212 base v0 v1_0 v1_1 v1_2 v1_3 v1_3n h = some r) : run (Et base) 212 [(.pointer v0), (.agg #[(vI v1_0), (vI v1_1), (vT v1_2), (vL v1_3 v1_3n)])] h = some r := run_i (an := a212) Try.func212 (by kernel_rfl) (.trans (by kernel_rfl) hx)
noncomputable abbrev qf213 (base : Nat) (v0 : Int) (h : AH) : Option (Value × AH) :=
(if (v0 == (1 : Int)) = true then
some ((vT (⟨#[65, 78]⟩ : ByteArray)), h)
else
(if (v0 == (2 : Int)) = true then
some ((vT (⟨#[65, 83]⟩ : ByteArray)), h)
else
((if (v0 == (3 : Int)) = true then
some (.inl ([some (vI v0), some (.bool (v0 == (3 : Int)))], h))
else
(if (v0 == (7 : Int)) = true then
some (.inl ([some (vI v0), some (.bool (v0 == (7 : Int)))], h))
else
(if (v0 == (8 : Int)) = true then
some (.inl ([some (vI v0), some (.bool (v0 == (8 : Int)))], h))
else
some (.inl ([some (vI v0), some (.bool (v0 == (13 : Int)))], h)))))).bind fun j1 => joinK j1 fun j1 =>
j_IB j1.1 fun n2 b3 =>
(if b3 = true then
some ((vT (⟨#[65, 66]⟩ : ByteArray)), j1.2)
else
((if (n2 == (4 : Int)) = true then
some (.inl ([some (vI n2), some (.bool (n2 == (4 : Int)))], j1.2))
else
(if (n2 == (6 : Int)) = true then
some (.inl ([some (vI n2), some (.bool (n2 == (6 : Int)))], j1.2))
else
(if (n2 == (10 : Int)) = true then
some (.inl ([some (vI n2), some (.bool (n2 == (10 : Int)))], j1.2))
else
(if (n2 == (11 : Int)) = true then
some (.inl ([some (vI n2), some (.bool (n2 == (11 : Int)))], j1.2))
else
some (.inl ([some (vI n2), some (.bool (n2 == (16 : Int)))], j1.2))))))).bind fun j4 => joinK j4 fun j4 =>
j_IB j4.1 fun n5 b6 =>
(if b6 = true then
some ((vT (⟨#[65, 66, 78]⟩ : ByteArray)), j4.2)
else
((if (n5 == (5 : Int)) = true then
some (.inl ([some (vI n5), some (.bool (n5 == (5 : Int)))], j4.2))
else
some (.inl ([some (vI n5), some (.bool (n5 == (9 : Int)))], j4.2)))).bind fun j7 => joinK j7 fun j7 =>
j_IB j7.1 fun n8 b9 =>
(if b9 = true then
some ((vT (⟨#[65, 66, 67]⟩ : ByteArray)), j7.2)
else
(if (n8 == (12 : Int)) = true then
some ((vT (⟨#[78]⟩ : ByteArray)), j7.2)
else
((if (n8 == (14 : Int)) = true then
some (.inl ([some (.bool (n8 == (14 : Int)))], j7.2))
else
(if (n8 == (15 : Int)) = true then
some (.inl ([some (.bool (n8 == (15 : Int)))], j7.2))
else
(if (n8 == (17 : Int)) = true then
some (.inl ([some (.bool (n8 == (17 : Int)))], j7.2))
else
(if (n8 == (18 : Int)) = true then
some (.inl ([some (.bool (n8 == (18 : Int)))], j7.2))
else
(if (n8 == (19 : Int)) = true then
some (.inl ([some (.bool (n8 == (19 : Int)))], j7.2))
else
some (.inl ([some (.bool (n8 == (20 : Int)))], j7.2)))))))).bind fun j10 => joinK j10 fun j10 =>
((sget j10.1 0).bind getB).bind fun b11 =>
(if b11 = true then
some ((vT (⟨#[65]⟩ : ByteArray)), j10.2)
else
some ((vT (⟨#[]⟩ : ByteArray)), j10.2))))))))
theorem r213 {base : Nat} {v0 : Int} {h : AH} {r : Value × AH} (hx : qf213 base v0 h = some r) : run (Et base) 213 [(vI v0)] h = some r := run_i (an := a213) Try.func213 (by kernel_rfl) (.trans (by kernel_rfl) hx)
theorem r214 {base : Nat} {v0 : Int} {w0 : Addr} {h : AH} {r : Value × AH} (hx : (((cell h w0.block w0.off).bind getStr).bind fun s1 =>
(run (Et base) 215 [(.string s1), (.int .u8 v0)] h).bind fun r2 =>
((some r2.1).bind (getI .i64)).bind fun n3 =>
some ((.bool (decide (n3 ≥ (0 : Int)))), r2.2)) = some r) : run (Et base) 214 [(.int .u8 v0), (vA w0)] h = some r := run_i (an := a214) Try.func214 (by kernel_rfl) (.trans (by kernel_rfl) hx)
theorem r215 {base : Nat} {v0 : ByteArray} {v1 : Int} {h : AH} {r : Value × AH} (hx : ((run (Et base) 223 [(.string v0), (.int .u8 v1)] h).bind fun r1 =>
((some r1.1).bind (getI .i64)).bind fun n2 =>
some ((.int .i64 n2), r1.2)) = some r) : run (Et base) 215 [(vT v0), (.int .u8 v1)] h = some r := run_i (an := a215) Try.func215 (by kernel_rfl) (.trans (by kernel_rfl) hx)
theorem r219 {base : Nat}  {h : AH} {r : Value × AH} (hx : ((some (h ++ [some ⟨[(.string (⟨#[105, 110, 116]⟩ : ByteArray)), (.string (⟨#[97, 116, 111, 109]⟩ : ByteArray)), (.string (⟨#[109, 111, 118, 101]⟩ : ByteArray)), (.string (⟨#[116, 117, 112, 108, 101]⟩ : ByteArray)), (.string (⟨#[99, 111, 110, 115]⟩ : ByteArray)), (.string (⟨#[101, 108, 101, 109]⟩ : ByteArray)), (.string (⟨#[104, 101, 97, 100]⟩ : ByteArray)), (.string (⟨#[116, 97, 105, 108]⟩ : ByteArray)), (.string (⟨#[97, 100, 100]⟩ : ByteArray)), (.string (⟨#[115, 97, 109, 101]⟩ : ByteArray)), (.string (⟨#[107, 105, 110, 100]⟩ : ByteArray)), (.string (⟨#[106, 117, 109, 112]⟩ : ByteArray)), (.string (⟨#[115, 101, 110, 100]⟩ : ByteArray)), (.string (⟨#[116, 97, 107, 101]⟩ : ByteArray)), (.string (⟨#[115, 101, 108, 102]⟩ : ByteArray)), (.string (⟨#[109, 97, 107, 101]⟩ : ByteArray)), (.string (⟨#[115, 97, 121]⟩ : ByteArray)), (.string (⟨#[108, 105, 110, 107]⟩ : ByteArray)), (.string (⟨#[101, 110, 100]⟩ : ByteArray)), (.string (⟨#[110, 105, 108]⟩ : ByteArray))], 9⟩])).bind fun h1 =>
some ((.slice (some ⟨(List.length h), 0, none⟩) 20 20), h1)) = some r) : run (Et base) 219 [] h = some r := run_i (an := a219) Try.func219 (by kernel_rfl) (.trans (by kernel_rfl) hx)
theorem r220 {base : Nat} {v0 : Option Addr} {v1 : Int} {v2 : ByteArray} {h : AH} {r : Value × AH} (hx : ((if (v1 == (83 : Int)) = true then
(v0).bind fun a1 =>
(wr base h a1.block (a1.off + 5) [(.string v2)]).bind fun h2 =>
some ((.bool true), h2)
else
(run (Et base) 224 [(.string v2)] h).bind fun r3 =>
(getTup 2 r3.1).bind fun l4 =>
((l4[0]?).bind (getI .i64)).bind fun n5 =>
((l4[1]?).bind getB).bind fun b6 =>
((if (v1 == (65 : Int)) = true then
(v0).bind fun a8 =>
(wr base r3.2 a8.block (a8.off + 1) [(.int .i64 n5)]).bind fun h9 =>
some (.inl ([some (.bool b6)], h9))
else
(if (v1 == (66 : Int)) = true then
(v0).bind fun a10 =>
(wr base r3.2 a10.block (a10.off + 2) [(.int .i64 n5)]).bind fun h11 =>
some (.inl ([some (.bool b6)], h11))
else
(if (v1 == (67 : Int)) = true then
(v0).bind fun a12 =>
(wr base r3.2 a12.block (a12.off + 3) [(.int .i64 n5)]).bind fun h13 =>
some (.inl ([some (.bool b6)], h13))
else
(v0).bind fun a14 =>
(wr base r3.2 a14.block (a14.off + 4) [(.int .i64 n5)]).bind fun h15 =>
some (.inl ([some (.bool b6)], h15)))))).bind fun j7 => joinK j7 fun j7 =>
((sget j7.1 0).bind getB).bind fun b16 =>
some ((.bool b16), j7.2))) = some r) : run (Et base) 220 [(.pointer v0), (.int .u8 v1), (vT v2)] h = some r := run_i (an := a220) Try.func220 (by kernel_rfl) (.trans (by kernel_rfl) hx)
noncomputable def B221_0 (base : Nat) : Body := fun l h => lay s221_0 l fun s => exCode (Et base) (run (Et base)) loopL a221_0 (subC [1, 1, 1, 0, 1, 0, 0] (bodyC Try.f221)) s h (keepK s221_0 e221_0)
theorem B221_0_eq (base : Nat) (v1 : Addr) (v2 : Addr) (v3 : Addr) (v4 : Int) (h : AH) : B221_0 base [some (vA v1), some (vA v2), some (vA v3), some (vI v4)] h =
(((cell h v1.block (v1.off + 3)).bind getS).bind fun l1 =>
(if (decide (v4 < ((l1.2 : Nat) : Int))) = true then
((cell h v3.block (v3.off + 3)).bind getS).bind fun l2 =>
((cell h v1.block (v1.off + 3)).bind getS).bind fun l3 =>
(if 0 ≤ v4 ∧ v4 < ((l3.2 : Nat) : Int) then
((l3.1 : Option Addr)).bind fun a4 =>
c_IITL h a4.block (a4.off + Int.toNat v4 * 4) fun n5 n6 s7 l8 =>
(run (Et base) 221 [(.agg #[(vI n5), (vI n6), (vT s7), (vL l8.1 l8.2)])] h).bind fun r9 =>
gG (some r9.1) 4 fun l10 =>
l_IITL l10 fun n11 n12 s13 l14 =>
(gate (sameA h r9.2 (some ⟨v3.block, (v3.off + 3), none⟩) 1)
((gate (neA (some ⟨v3.block, (v3.off + 3), none⟩) (List.length r9.2))
(nw1 r9.2 39 [(vI n11), (vI n12), (vT s13), (vL l14.1 l14.2)] fun h15 =>
(app base h15 39 4 56 l2.1 l2.2 (rawAt h15 (some ⟨(List.length r9.2), 0, none⟩) (1 * 4)) 1).bind fun p16 =>
((some p16.1).bind getS).bind fun l17 =>
(wr base p16.2 v3.block (v3.off + 3) [(vL l17.1 l17.2)]).bind fun h18 =>
some (0, [some (vA v1), some (vA v2), some (vA v3), some (vI (IntKind.wrap .i64 (v4 + (1 : Int))))], h18)))))
else none)
else
some (2, [some (vA v2), some (vA v3)], h)) : Option (Nat × Slots × AH)) := by kernel_rfl
theorem r221 {base : Nat} {v0_0 : Int} {v0_1 : Int} {v0_2 : ByteArray} {v0_3 : Option Addr} {v0_3n : Nat} {h : AH} {r : Value × AH} (hx : (nw1 h 39 [(vI v0_0), (vI v0_1), (vT v0_2), (vL v0_3 v0_3n)] fun h1 =>
nw1 h1 39 [(vI 0), (vI 0), (vT ⟨#[]⟩), (vL none 0)] fun h2 =>
c_IITL h2 (List.length h) 0 fun n3 n4 s5 l6 =>
nw1 h2 39 [(vI 0), (vI 0), (vT ⟨#[]⟩), (vL none 0)] fun h7 =>
(wr base h7 (List.length h2) 0 [(vI n3), (vI n4), (vT s5), (vL l6.1 l6.2)]).bind fun h8 =>
nw1 h8 39 [] fun h9 =>
(wr base h9 (List.length h2) 3 [(vL (some ⟨(List.length h8), 0, none⟩) 0)]).bind fun h10 =>
(loopL (B221_0 base) [some (vP (List.length h)), some (vP (List.length h1)), some (vP (List.length h2)), some (vI (0 : Int))] h10).bind fun q11 =>
(if q11.1 = 2 then
j_AA q11.2.1 fun d12 d13 =>
c_IITL q11.2.2 d13.block d13.off fun n14 n15 s16 l17 =>
(wr base q11.2.2 d12.block d12.off [(vI n14), (vI n15), (vT s16), (vL l17.1 l17.2)]).bind fun h18 =>
c_IITL h18 d12.block d12.off fun n19 n20 s21 l22 =>
some ((.agg #[(vI n19), (vI n20), (vT s21), (vL l22.1 l22.2)]), h18)
else
none)) = some r) : run (Et base) 221 [(.agg #[(vI v0_0), (vI v0_1), (vT v0_2), (vL v0_3 v0_3n)])] h = some r := run_i (an := a221) Try.func221 (by kernel_rfl) (.trans (by kernel_rfl) hx)
theorem r222 {base : Nat} {v0 : Int} {h : AH} {r : Value × AH} (hx : ((some (h ++ [some ⟨[(.int .i64 0), (.int .i64 0), (.string ⟨#[]⟩), (.slice none 0 0)], 39⟩])).bind fun h1 =>
(wr base h1 (List.length h) 0 [(.int .i64 (1 : Int)), (.int .i64 v0), (.string (⟨#[]⟩ : ByteArray)), (.slice none 0 0)]).bind fun h2 =>
((cell h2 (List.length h) 0).bind (getI .i64)).bind fun n3 =>
((cell h2 (List.length h) 1).bind (getI .i64)).bind fun n4 =>
((cell h2 (List.length h) 2).bind getStr).bind fun s5 =>
((cell h2 (List.length h) 3).bind getS).bind fun l6 =>
some ((.agg #[(.int .i64 n3), (.int .i64 n4), (.string s5), (.slice l6.1 l6.2 l6.2)]), h2)) = some r) : run (Et base) 222 [(vI v0)] h = some r := run_i (an := a222) Try.func222 (by kernel_rfl) (.trans (by kernel_rfl) hx)
theorem r223 {base : Nat} {v0 : ByteArray} {v1 : Int} {h : AH} {r : Value × AH} (hx : (some ((.int .i64 (firstIdx v0 (Nat.toUInt8 (Int.toNat v1)))), h)) = some r) : run (Et base) 223 [(vT v0), (.int .u8 v1)] h = some r := run_i (an := a223) Try.func223 (by kernel_rfl) (.trans (by kernel_rfl) hx)
theorem r224 {base : Nat} {v0 : ByteArray} {h : AH} {r : Value × AH} (hx : (((if (decide ((v0.size : Int) > (1 : Int))) = true then
(if 0 ≤ (0 : Int) ∧ (0 : Int) < (v0.size : Int) then
some (.inl ([some (.string v0), some (.bool (((v0.data.toList.getD (Int.toNat (0 : Int)) 0).toNat : Int) == (45 : Int)))], h))
else none)
else
some (.inl ([some (.string v0), some (.bool false)], h)))).bind fun j1 => joinK j1 fun j1 =>
((sget j1.1 0).bind getStr).bind fun s2 =>
((sget (j1.1.tail) 0).bind getB).bind fun b3 =>
(if b3 = true then
(if 0 ≤ (1 : Int) ∧ (1 : Int) ≤ (s2.size : Int) ∧ (s2.size : Int) ≤ (s2.size : Int) then
(run (Et base) 226 [(.string (s2.extract (Int.toNat (1 : Int)) (Int.toNat (s2.size : Int))))] j1.2).bind fun r4 =>
((some r4.1).bind (getI .i64)).bind fun n5 =>
some ((.tuple #[(.int .i64 (IntKind.wrap .i64 (0 - n5))), (.bool (decide (n5 > (0 : Int))))]), r4.2)
else none)
else
(run (Et base) 226 [(.string s2)] j1.2).bind fun r6 =>
((some r6.1).bind (getI .i64)).bind fun n7 =>
some ((.tuple #[(.int .i64 n7), (.bool (decide (n7 ≥ (0 : Int))))]), r6.2))) = some r) : run (Et base) 224 [(vT v0)] h = some r := run_i (an := a224) Try.func224 (by kernel_rfl) (.trans (by kernel_rfl) hx)
noncomputable def B226_0 (base : Nat) : Body := fun l h => lay s226_0 l fun s => exCode (Et base) (run (Et base)) loopL a226_0 (subC [1, 1, 1, 0, 1, 0, 0] (bodyC Try.f226)) s h (keepK s226_0 e226_0)
theorem B226_0_eq (base : Nat) (v0 : ByteArray) (v3 : Int) (v4 : Int) (h : AH) : B226_0 base [some (vT v0), some (vI v3), some (vI v4)] h =
((if (decide (v4 < (v0.size : Int))) = true then
(if 0 ≤ v4 ∧ v4 < (v0.size : Int) then
(run (Et base) 83 [(.int .i64 (IntKind.wrap .i64 ((v0.data.toList.getD (Int.toNat v4) 0).toNat : Int))), (.int .i64 (48 : Int)), (.int .i64 (57 : Int))] h).bind fun r1 =>
((some r1.1).bind getB).bind fun b2 =>
(if (!b2) = true then
some (1, [some (.int .i64 (-1 : Int))], r1.2)
else
(if 0 ≤ v4 ∧ v4 < (v0.size : Int) then
some (0, [some (.string v0), some (.int .i64 (IntKind.wrap .i64 ((IntKind.wrap .i64 (v3 * (10 : Int))) + (IntKind.wrap .i64 (IntKind.wrap .u8 (((v0.data.toList.getD (Int.toNat v4) 0).toNat : Int) - (48 : Int))))))), some (.int .i64 (IntKind.wrap .i64 (v4 + (1 : Int))))], r1.2)
else none))
else none)
else
some (2, [some (.int .i64 v3)], h)) : Option (Nat × Slots × AH)) := by kernel_rfl
theorem r226 {base : Nat} {v0 : ByteArray} {h : AH} {r : Value × AH} (hx : (((run (Et base) 83 [(.int .i64 (v0.size : Int)), (.int .i64 (1 : Int)), (.int .i64 (7 : Int))] h).bind fun r2 =>
((some r2.1).bind getB).bind fun b3 =>
(if (!b3) = true then
some (.inl ([some (.string v0), some (.bool true)], r2.2))
else
(if (decide ((v0.size : Int) > (1 : Int))) = true then
(if 0 ≤ (0 : Int) ∧ (0 : Int) < (v0.size : Int) then
some (.inl ([some (.string v0), some (.bool (((v0.data.toList.getD (Int.toNat (0 : Int)) 0).toNat : Int) == (48 : Int)))], r2.2))
else none)
else
some (.inl ([some (.string v0), some (.bool false)], r2.2))))).bind fun j1 => joinK j1 fun j1 =>
((sget j1.1 0).bind getStr).bind fun s4 =>
((sget (j1.1.tail) 0).bind getB).bind fun b5 =>
(if b5 = true then
some ((.int .i64 (-1 : Int)), j1.2)
else
(loopL (B226_0 base) [some (.string s4), some (.int .i64 (0 : Int)), some (.int .i64 (0 : Int))] j1.2).bind fun q6 =>
(if q6.1 = 1 then
((sget q6.2.1 0).bind (getI .i64)).bind fun n7 =>
some ((.int .i64 n7), q6.2.2)
else
(if q6.1 = 2 then
((sget q6.2.1 0).bind (getI .i64)).bind fun n8 =>
some ((.int .i64 n8), q6.2.2)
else
none)))) = some r) : run (Et base) 226 [(vT v0)] h = some r := run_i (an := a226) Try.func226 (by kernel_rfl) (.trans (by kernel_rfl) hx)
end Go.Proofs.Ytjmkbglnjklbcaa.Am
