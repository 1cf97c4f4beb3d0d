/- The tables of the abstract machine for this program: its types, what its functions hand back, where their ways meet.
Conditions: none. -/
import Derived.Test.YtkdenmdijdmnjaaProg
import Derived.Test.YtkdenmdijdmnjaaMd
import Derived.WalkKit
set_option maxRecDepth 1000000
namespace Go.Proofs.Ytkdenmdijdmnjaa.Am
open Go Go.RowKit
def t3 : TI:=⟨false,[(.int .i64)],0,[],[(.int .i64 0)],8,0⟩
theorem ti3 : TFact Try.prog 3 t3:=TFact.of (z:=(.int .i64 0)) (by kernel_rfl) rfl rfl rfl Try.underlying3 ⟨rfl,rfl,rfl⟩ (fun h=>absurd h (Nat.lt_irrefl 0)) (fun _=>rfl)
def t4 : TI:=⟨false,[.bool],0,[],[(.bool false)],1,0⟩
theorem ti4 : TFact Try.prog 4 t4:=TFact.of (z:=(.bool false)) (by kernel_rfl) rfl rfl rfl Try.underlying4 ⟨rfl,rfl,rfl⟩ (fun h=>absurd h (Nat.lt_irrefl 0)) (fun h=>nomatch (show false = true from h))
def t5 : TI:=⟨false,[(.int .u8)],0,[],[(.int .u8 0)],1,0⟩
theorem ti5 : TFact Try.prog 5 t5:=TFact.of (z:=(.int .u8 0)) (by kernel_rfl) rfl rfl rfl Try.underlying5 ⟨rfl,rfl,rfl⟩ (fun h=>absurd h (Nat.lt_irrefl 0)) (fun h=>nomatch (show false = true from h))
def t9 : TI:=⟨false,[.str],0,[],[(.string ⟨#[]⟩)],16,0⟩
theorem ti9 : TFact Try.prog 9 t9:=TFact.of (z:=(.string ⟨#[]⟩)) (by kernel_rfl) rfl rfl rfl Try.underlying9 ⟨rfl,rfl,rfl⟩ (fun h=>absurd h (Nat.lt_irrefl 0)) (fun h=>nomatch (show false = true from h))
def t22 : TI:=⟨false,[.slice],131,[],[(.slice none 0 0)],24,0⟩
theorem ti22 : TFact Try.prog 22 t22:=TFact.of (z:=(.slice none 0 0)) (by kernel_rfl) rfl rfl rfl Try.underlying22 ⟨rfl,rfl,rfl,rfl⟩ (fun h=>absurd h (Nat.lt_irrefl 0)) (fun h=>nomatch (show false = true from h))
def t23 : TI:=⟨false,[.slice],134,[],[(.slice none 0 0)],24,0⟩
theorem ti23 : TFact Try.prog 23 t23:=TFact.of (z:=(.slice none 0 0)) (by kernel_rfl) rfl rfl rfl Try.underlying23 ⟨rfl,rfl,rfl,rfl⟩ (fun h=>absurd h (Nat.lt_irrefl 0)) (fun h=>nomatch (show false = true from h))
def t24 : TI:=⟨false,[.slice],137,[],[(.slice none 0 0)],24,0⟩
theorem ti24 : TFact Try.prog 24 t24:=TFact.of (z:=(.slice none 0 0)) (by kernel_rfl) rfl rfl rfl Try.underlying24 ⟨rfl,rfl,rfl,rfl⟩ (fun h=>absurd h (Nat.lt_irrefl 0)) (fun h=>nomatch (show false = true from h))
def t26 : TI:=⟨true,[.slice,.slice,(.int .i64),.slice],0,[(0,22),(1,23),(2,3),(3,24)],[(.slice none 0 0),(.slice none 0 0),(.int .i64 0),(.slice none 0 0)],80,0⟩
theorem ti26 : TFact Try.prog 26 t26:=TFact.of (z:=.agg #[(.slice none 0 0),(.slice none 0 0),(.int .i64 0),(.slice none 0 0)]) (by kernel_rfl) rfl rfl rfl Try.underlying26 ⟨rfl,rfl⟩ (fun h=>absurd h (Nat.lt_irrefl 0)) (fun h=>nomatch (show false = true from h))
def t27 : TI:=⟨false,[.slice],29,[],[(.slice none 0 0)],24,0⟩
theorem ti27 : TFact Try.prog 27 t27:=TFact.of (z:=(.slice none 0 0)) (by kernel_rfl) rfl rfl rfl Try.underlying27 ⟨rfl,rfl,rfl,rfl⟩ (fun h=>absurd h (Nat.lt_irrefl 0)) (fun h=>nomatch (show false = true from h))
def t29 : TI:=⟨true,[(.int .i64),(.int .i64),.str,.slice],0,[(0,3),(1,3),(2,9),(3,27)],[(.int .i64 0),(.int .i64 0),(.string ⟨#[]⟩),(.slice none 0 0)],56,0⟩
theorem ti29 : TFact Try.prog 29 t29:=TFact.of (z:=.agg #[(.int .i64 0),(.int .i64 0),(.string ⟨#[]⟩),(.slice none 0 0)]) (by kernel_rfl) rfl rfl rfl Try.underlying29 ⟨rfl,rfl⟩ (fun h=>absurd h (Nat.lt_irrefl 0)) (fun h=>nomatch (show false = true from h))
def t32 : TI:=⟨false,[.slice],143,[],[(.slice none 0 0)],24,0⟩
theorem ti32 : TFact Try.prog 32 t32:=TFact.of (z:=(.slice none 0 0)) (by kernel_rfl) rfl rfl rfl Try.underlying32 ⟨rfl,rfl,rfl,rfl⟩ (fun h=>absurd h (Nat.lt_irrefl 0)) (fun h=>nomatch (show false = true from h))
def t33 : TI:=⟨false,[.slice],54,[],[(.slice none 0 0)],24,0⟩
theorem ti33 : TFact Try.prog 33 t33:=TFact.of (z:=(.slice none 0 0)) (by kernel_rfl) rfl rfl rfl Try.underlying33 ⟨rfl,rfl,rfl,rfl⟩ (fun h=>absurd h (Nat.lt_irrefl 0)) (fun h=>nomatch (show false = true from h))
def t34 : TI:=⟨false,[.slice],140,[],[(.slice none 0 0)],24,0⟩
theorem ti34 : TFact Try.prog 34 t34:=TFact.of (z:=(.slice none 0 0)) (by kernel_rfl) rfl rfl rfl Try.underlying34 ⟨rfl,rfl,rfl,rfl⟩ (fun h=>absurd h (Nat.lt_irrefl 0)) (fun h=>nomatch (show false = true from h))
def t36 : TI:=⟨true,[.slice,.slice,(.int .i64),.slice],0,[(0,32),(1,33),(2,3),(3,34)],[(.slice none 0 0),(.slice none 0 0),(.int .i64 0),(.slice none 0 0)],80,0⟩
theorem ti36 : TFact Try.prog 36 t36:=TFact.of (z:=.agg #[(.slice none 0 0),(.slice none 0 0),(.int .i64 0),(.slice none 0 0)]) (by kernel_rfl) rfl rfl rfl Try.underlying36 ⟨rfl,rfl⟩ (fun h=>absurd h (Nat.lt_irrefl 0)) (fun h=>nomatch (show false = true from h))
def t40 : TI:=⟨false,[.slice],42,[],[(.slice none 0 0)],24,0⟩
theorem ti40 : TFact Try.prog 40 t40:=TFact.of (z:=(.slice none 0 0)) (by kernel_rfl) rfl rfl rfl Try.underlying40 ⟨rfl,rfl,rfl,rfl⟩ (fun h=>absurd h (Nat.lt_irrefl 0)) (fun h=>nomatch (show false = true from h))
def t42 : TI:=⟨true,[(.int .i64),(.int .i64),.str,.slice],0,[(0,3),(1,3),(2,9),(3,40)],[(.int .i64 0),(.int .i64 0),(.string ⟨#[]⟩),(.slice none 0 0)],56,0⟩
theorem ti42 : TFact Try.prog 42 t42:=TFact.of (z:=.agg #[(.int .i64 0),(.int .i64 0),(.string ⟨#[]⟩),(.slice none 0 0)]) (by kernel_rfl) rfl rfl rfl Try.underlying42 ⟨rfl,rfl⟩ (fun h=>absurd h (Nat.lt_irrefl 0)) (fun h=>nomatch (show false = true from h))
def t49 : TI:=⟨false,[.slice],5,[],[(.slice none 0 0)],24,0⟩
theorem ti49 : TFact Try.prog 49 t49:=TFact.of (z:=(.slice none 0 0)) (by kernel_rfl) rfl rfl rfl Try.underlying49 ⟨rfl,rfl,rfl,rfl⟩ (fun h=>absurd h (Nat.lt_irrefl 0)) (fun h=>nomatch (show false = true from h))
def t52 : TI:=⟨false,[.slice],3,[],[(.slice none 0 0)],24,0⟩
theorem ti52 : TFact Try.prog 52 t52:=TFact.of (z:=(.slice none 0 0)) (by kernel_rfl) rfl rfl rfl Try.underlying52 ⟨rfl,rfl,rfl,rfl⟩ (fun h=>absurd h (Nat.lt_irrefl 0)) (fun h=>nomatch (show false = true from h))
def t54 : TI:=⟨true,[(.int .i64),(.int .i64),.slice,.slice,.slice],0,[(0,3),(1,3),(2,40),(3,40),(4,52)],[(.int .i64 0),(.int .i64 0),(.slice none 0 0),(.slice none 0 0),(.slice none 0 0)],88,0⟩
theorem ti54 : TFact Try.prog 54 t54:=TFact.of (z:=.agg #[(.int .i64 0),(.int .i64 0),(.slice none 0 0),(.slice none 0 0),(.slice none 0 0)]) (by kernel_rfl) rfl rfl rfl Try.underlying54 ⟨rfl,rfl⟩ (fun h=>absurd h (Nat.lt_irrefl 0)) (fun h=>nomatch (show false = true from h))
def t59 : TI:=⟨false,[.slice],9,[],[(.slice none 0 0)],24,0⟩
theorem ti59 : TFact Try.prog 59 t59:=TFact.of (z:=(.slice none 0 0)) (by kernel_rfl) rfl rfl rfl Try.underlying59 ⟨rfl,rfl,rfl,rfl⟩ (fun h=>absurd h (Nat.lt_irrefl 0)) (fun h=>nomatch (show false = true from h))
def t89 : TI:=⟨false,[.ptr],0,[],[(.pointer none)],8,0⟩
theorem ti89 : TFact Try.prog 89 t89:=TFact.of (z:=(.pointer none)) (by kernel_rfl) rfl rfl rfl Try.underlying89 ⟨rfl,rfl,rfl⟩ (fun h=>absurd h (Nat.lt_irrefl 0)) (fun h=>nomatch (show false = true from h))
def t131 : TI:=⟨true,[(.int .i64),(.int .i64),(.int .i64),(.int .i64),(.int .i64),.str],0,[(0,3),(1,3),(2,3),(3,3),(4,3),(5,9)],[(.int .i64 0),(.int .i64 0),(.int .i64 0),(.int .i64 0),(.int .i64 0),(.string ⟨#[]⟩)],56,0⟩
theorem ti131 : TFact Try.prog 131 t131:=TFact.of (z:=.agg #[(.int .i64 0),(.int .i64 0),(.int .i64 0),(.int .i64 0),(.int .i64 0),(.string ⟨#[]⟩)]) (by kernel_rfl) rfl rfl rfl Try.underlying131 ⟨rfl,rfl⟩ (fun h=>absurd h (Nat.lt_irrefl 0)) (fun h=>nomatch (show false = true from h))
def t134 : TI:=⟨true,[(.int .i64),(.int .i64),.slice,.slice,.slice],0,[(0,3),(1,3),(2,27),(3,27),(4,52)],[(.int .i64 0),(.int .i64 0),(.slice none 0 0),(.slice none 0 0),(.slice none 0 0)],88,0⟩
theorem ti134 : TFact Try.prog 134 t134:=TFact.of (z:=.agg #[(.int .i64 0),(.int .i64 0),(.slice none 0 0),(.slice none 0 0),(.slice none 0 0)]) (by kernel_rfl) rfl rfl rfl Try.underlying134 ⟨rfl,rfl⟩ (fun h=>absurd h (Nat.lt_irrefl 0)) (fun h=>nomatch (show false = true from h))
def t137 : TI:=⟨true,[(.int .i64),(.int .i64),(.int .i64),(.int .i64),.str,.slice],0,[(0,3),(1,3),(2,29)],[(.int .i64 0),(.int .i64 0),(.int .i64 0),(.int .i64 0),(.string ⟨#[]⟩),(.slice none 0 0)],72,0⟩
theorem ti137 : TFact Try.prog 137 t137:=TFact.of (z:=.agg #[(.int .i64 0),(.int .i64 0),(.int .i64 0),(.int .i64 0),(.string ⟨#[]⟩),(.slice none 0 0)]) (by kernel_rfl) rfl rfl rfl Try.underlying137 ⟨rfl,rfl⟩ (fun h=>absurd h (Nat.lt_irrefl 0)) (fun h=>nomatch (show false = true from h))
def t140 : TI:=⟨true,[(.int .i64),(.int .i64),(.int .i64),(.int .i64),.str,.slice],0,[(0,3),(1,3),(2,42)],[(.int .i64 0),(.int .i64 0),(.int .i64 0),(.int .i64 0),(.string ⟨#[]⟩),(.slice none 0 0)],72,0⟩
theorem ti140 : TFact Try.prog 140 t140:=TFact.of (z:=.agg #[(.int .i64 0),(.int .i64 0),(.int .i64 0),(.int .i64 0),(.string ⟨#[]⟩),(.slice none 0 0)]) (by kernel_rfl) rfl rfl rfl Try.underlying140 ⟨rfl,rfl⟩ (fun h=>absurd h (Nat.lt_irrefl 0)) (fun h=>nomatch (show false = true from h))
def t143 : TI:=⟨true,[(.int .i64),(.int .i64),(.int .i64),(.int .i64),(.int .i64),.str],0,[(0,3),(1,3),(2,3),(3,3),(4,3),(5,9)],[(.int .i64 0),(.int .i64 0),(.int .i64 0),(.int .i64 0),(.int .i64 0),(.string ⟨#[]⟩)],56,0⟩
theorem ti143 : TFact Try.prog 143 t143:=TFact.of (z:=.agg #[(.int .i64 0),(.int .i64 0),(.int .i64 0),(.int .i64 0),(.int .i64 0),(.string ⟨#[]⟩)]) (by kernel_rfl) rfl rfl rfl Try.underlying143 ⟨rfl,rfl⟩ (fun h=>absurd h (Nat.lt_irrefl 0)) (fun h=>nomatch (show false = true from h))
def tab : List (Nat × TI):=[(3,t3),(4,t4),(5,t5),(9,t9),(22,t22),(23,t23),(24,t24),(26,t26),(27,t27),(29,t29),(32,t32),(33,t33),(34,t34),(36,t36),(40,t40),(42,t42),(49,t49),(52,t52),(54,t54),(59,t59),(89,t89),(131,t131),(134,t134),(137,t137),(140,t140),(143,t143)]
theorem tabOk : ∀ p∈tab,TFact Try.prog p.1 p.2:=List.forall_mem_cons.2 ⟨ti3,List.forall_mem_cons.2 ⟨ti4,List.forall_mem_cons.2 ⟨ti5,List.forall_mem_cons.2 ⟨ti9,List.forall_mem_cons.2 ⟨ti22,List.forall_mem_cons.2 ⟨ti23,List.forall_mem_cons.2 ⟨ti24,List.forall_mem_cons.2 ⟨ti26,List.forall_mem_cons.2 ⟨ti27,List.forall_mem_cons.2 ⟨ti29,List.forall_mem_cons.2 ⟨ti32,List.forall_mem_cons.2 ⟨ti33,List.forall_mem_cons.2 ⟨ti34,List.forall_mem_cons.2 ⟨ti36,List.forall_mem_cons.2 ⟨ti40,List.forall_mem_cons.2 ⟨ti42,List.forall_mem_cons.2 ⟨ti49,List.forall_mem_cons.2 ⟨ti52,List.forall_mem_cons.2 ⟨ti54,List.forall_mem_cons.2 ⟨ti59,List.forall_mem_cons.2 ⟨ti89,List.forall_mem_cons.2 ⟨ti131,List.forall_mem_cons.2 ⟨ti134,List.forall_mem_cons.2 ⟨ti137,List.forall_mem_cons.2 ⟨ti140,List.forall_mem_cons.2 ⟨ti143,(fun _ h=>nomatch h)⟩⟩⟩⟩⟩⟩⟩⟩⟩⟩⟩⟩⟩⟩⟩⟩⟩⟩⟩⟩⟩⟩⟩⟩⟩⟩
def fns : List (Nat × List (Bool × List K)):=[(3,[(false,[.bool])]),(11,[(false,[(.int .i64)])]),(12,[(false,[(.int .i64)])]),(13,[(true,[.slice,.slice,(.int .i64),.slice]),(false,[.bool])]),(14,[(true,[.slice,.slice,(.int .i64),.slice])]),(15,[(true,[(.int .i64),(.int .i64),.str,.slice])]),(16,[(true,[.slice,.slice,(.int .i64),.slice]),(false,[.bool])]),(17,[(false,[.bool])]),(18,[(false,[.bool])]),(19,[(false,[(.int .i64)])]),(20,[(false,[(.int .i64)])]),(21,[(false,[(.int .i64)])]),(25,[(false,[.bool])]),(26,[(false,[.bool])]),(27,[(false,[.bool])]),(33,[(false,[.slice])]),(37,[(false,[.bool])]),(42,[(false,[(.int .i64)])]),(44,[(false,[(.int .i64)])]),(53,[(false,[(.int .i64)])]),(54,[(false,[(.int .i64)])]),(55,[(false,[(.int .i64)])]),(56,[(false,[(.int .i64)])]),(57,[(true,[.slice,.slice,(.int .i64),.slice])]),(58,[(false,[.bool])]),(59,[(false,[.bool])]),(60,[(false,[.slice])]),(61,[(false,[.slice])]),(62,[(false,[.slice])]),(63,[(false,[.slice])]),(64,[(true,[.slice,.slice,(.int .i64),.slice])]),(65,[(false,[.bool])]),(66,[(false,[.bool])]),(67,[(false,[.bool])]),(68,[(false,[.bool])]),(69,[(false,[.bool])]),(70,[(false,[.bool])]),(71,[(false,[(.int .i64)])]),(72,[(false,[(.int .i64)])]),(73,[(false,[(.int .i64)])]),(74,[(false,[(.int .i64)])]),(75,[(false,[(.int .i64)])]),(76,[(false,[(.int .i64)])]),(77,[(false,[(.int .i64)])]),(82,[(false,[.bool])]),(83,[(false,[.bool])]),(84,[(false,[.bool])]),(85,[(false,[.bool])]),(86,[(false,[.bool])]),(87,[(false,[(.int .i64)])]),(88,[(false,[.bool])]),(89,[(false,[.bool])]),(90,[(false,[.bool])]),(91,[(false,[.bool])]),(92,[(false,[.bool])]),(93,[(false,[.bool])]),(94,[(false,[(.int .i64)])]),(100,[(false,[.str])]),(104,[(false,[.slice])]),(112,[(false,[(.int .i64)])]),(113,[(false,[(.int .i64)])]),(114,[(false,[(.int .i64)])]),(115,[(true,[(.int .i64),(.int .i64),.slice,.slice,.slice])]),(116,[(true,[(.int .i64),(.int .i64),.str,.slice])]),(117,[(false,[(.int .i64)])]),(118,[(false,[(.int .i64)])]),(119,[(true,[(.int .i64),(.int .i64),(.int .i64),(.int .i64),(.int .i64),.str])]),(120,[(true,[(.int .i64),(.int .i64),.slice,.slice,.slice])]),(121,[(true,[(.int .i64),(.int .i64),(.int .i64),(.int .i64),.str,.slice])]),(122,[(false,[.slice])]),(123,[(true,[(.int .i64),(.int .i64),.slice,.slice,.slice])]),(124,[(false,[(.int .i64)]),(false,[.bool])]),(125,[(true,[(.int .i64),(.int .i64),.str,.slice])]),(126,[(false,[.bool])]),(127,[(false,[.bool])]),(128,[(false,[.bool])]),(129,[(false,[(.int .i64)])]),(139,[(false,[.bool])]),(140,[(false,[.bool])]),(141,[(false,[.bool])]),(142,[(false,[.bool])]),(143,[(false,[.bool])]),(158,[(false,[.bool])]),(163,[(false,[.slice])]),(164,[(false,[.bool])]),(165,[(false,[.slice])]),(166,[(false,[.bool])]),(179,[(false,[.bool])]),(180,[(false,[.bool])]),(181,[(false,[.slice])]),(182,[(false,[.bool])]),(183,[(false,[.bool])]),(184,[(false,[.bool])]),(194,[(false,[.bool])]),(195,[(false,[.bool])]),(204,[(false,[.bool])]),(211,[(false,[.str])]),(212,[(false,[.bool])]),(213,[(false,[(.int .i64)])]),(229,[(false,[(.int .i64)])])]
theorem fnsOk : ∀ p∈fns,∀ args w,(callFunc p.1 args).run Try.prog w = .ok (.enter p.1 args) w:=List.forall_mem_cons.2 ⟨fun a w=>Try.call3 a w,List.forall_mem_cons.2 ⟨fun a w=>Try.call11 a w,List.forall_mem_cons.2 ⟨fun a w=>Try.call12 a w,List.forall_mem_cons.2 ⟨fun a w=>Try.call13 a w,List.forall_mem_cons.2 ⟨fun a w=>Try.call14 a w,List.forall_mem_cons.2 ⟨fun a w=>Try.call15 a w,List.forall_mem_cons.2 ⟨fun a w=>Try.call16 a w,List.forall_mem_cons.2 ⟨fun a w=>Try.call17 a w,List.forall_mem_cons.2 ⟨fun a w=>Try.call18 a w,List.forall_mem_cons.2 ⟨fun a w=>Try.call19 a w,List.forall_mem_cons.2 ⟨fun a w=>Try.call20 a w,List.forall_mem_cons.2 ⟨fun a w=>Try.call21 a w,List.forall_mem_cons.2 ⟨fun a w=>Try.call25 a w,List.forall_mem_cons.2 ⟨fun a w=>Try.call26 a w,List.forall_mem_cons.2 ⟨fun a w=>Try.call27 a w,List.forall_mem_cons.2 ⟨fun a w=>Try.call33 a w,List.forall_mem_cons.2 ⟨fun a w=>Try.call37 a w,List.forall_mem_cons.2 ⟨fun a w=>Try.call42 a w,List.forall_mem_cons.2 ⟨fun a w=>Try.call44 a w,List.forall_mem_cons.2 ⟨fun a w=>Try.call53 a w,List.forall_mem_cons.2 ⟨fun a w=>Try.call54 a w,List.forall_mem_cons.2 ⟨fun a w=>Try.call55 a w,List.forall_mem_cons.2 ⟨fun a w=>Try.call56 a w,List.forall_mem_cons.2 ⟨fun a w=>Try.call57 a w,List.forall_mem_cons.2 ⟨fun a w=>Try.call58 a w,List.forall_mem_cons.2 ⟨fun a w=>Try.call59 a w,List.forall_mem_cons.2 ⟨fun a w=>Try.call60 a w,List.forall_mem_cons.2 ⟨fun a w=>Try.call61 a w,List.forall_mem_cons.2 ⟨fun a w=>Try.call62 a w,List.forall_mem_cons.2 ⟨fun a w=>Try.call63 a w,List.forall_mem_cons.2 ⟨fun a w=>Try.call64 a w,List.forall_mem_cons.2 ⟨fun a w=>Try.call65 a w,List.forall_mem_cons.2 ⟨fun a w=>Try.call66 a w,List.forall_mem_cons.2 ⟨fun a w=>Try.call67 a w,List.forall_mem_cons.2 ⟨fun a w=>Try.call68 a w,List.forall_mem_cons.2 ⟨fun a w=>Try.call69 a w,List.forall_mem_cons.2 ⟨fun a w=>Try.call70 a w,List.forall_mem_cons.2 ⟨fun a w=>Try.call71 a w,List.forall_mem_cons.2 ⟨fun a w=>Try.call72 a w,List.forall_mem_cons.2 ⟨fun a w=>Try.call73 a w,List.forall_mem_cons.2 ⟨fun a w=>Try.call74 a w,List.forall_mem_cons.2 ⟨fun a w=>Try.call75 a w,List.forall_mem_cons.2 ⟨fun a w=>Try.call76 a w,List.forall_mem_cons.2 ⟨fun a w=>Try.call77 a w,List.forall_mem_cons.2 ⟨fun a w=>Try.call82 a w,List.forall_mem_cons.2 ⟨fun a w=>Try.call83 a w,List.forall_mem_cons.2 ⟨fun a w=>Try.call84 a w,List.forall_mem_cons.2 ⟨fun a w=>Try.call85 a w,List.forall_mem_cons.2 ⟨fun a w=>Try.call86 a w,List.forall_mem_cons.2 ⟨fun a w=>Try.call87 a w,List.forall_mem_cons.2 ⟨fun a w=>Try.call88 a w,List.forall_mem_cons.2 ⟨fun a w=>Try.call89 a w,List.forall_mem_cons.2 ⟨fun a w=>Try.call90 a w,List.forall_mem_cons.2 ⟨fun a w=>Try.call91 a w,List.forall_mem_cons.2 ⟨fun a w=>Try.call92 a w,List.forall_mem_cons.2 ⟨fun a w=>Try.call93 a w,List.forall_mem_cons.2 ⟨fun a w=>Try.call94 a w,List.forall_mem_cons.2 ⟨fun a w=>Try.call100 a w,List.forall_mem_cons.2 ⟨fun a w=>Try.call104 a w,List.forall_mem_cons.2 ⟨fun a w=>Try.call112 a w,List.forall_mem_cons.2 ⟨fun a w=>Try.call113 a w,List.forall_mem_cons.2 ⟨fun a w=>Try.call114 a w,List.forall_mem_cons.2 ⟨fun a w=>Try.call115 a w,List.forall_mem_cons.2 ⟨fun a w=>Try.call116 a w,List.forall_mem_cons.2 ⟨fun a w=>Try.call117 a w,List.forall_mem_cons.2 ⟨fun a w=>Try.call118 a w,List.forall_mem_cons.2 ⟨fun a w=>Try.call119 a w,List.forall_mem_cons.2 ⟨fun a w=>Try.call120 a w,List.forall_mem_cons.2 ⟨fun a w=>Try.call121 a w,List.forall_mem_cons.2 ⟨fun a w=>Try.call122 a w,List.forall_mem_cons.2 ⟨fun a w=>Try.call123 a w,List.forall_mem_cons.2 ⟨fun a w=>Try.call124 a w,List.forall_mem_cons.2 ⟨fun a w=>Try.call125 a w,List.forall_mem_cons.2 ⟨fun a w=>Try.call126 a w,List.forall_mem_cons.2 ⟨fun a w=>Try.call127 a w,List.forall_mem_cons.2 ⟨fun a w=>Try.call128 a w,List.forall_mem_cons.2 ⟨fun a w=>Try.call129 a w,List.forall_mem_cons.2 ⟨fun a w=>Try.call139 a w,List.forall_mem_cons.2 ⟨fun a w=>Try.call140 a w,List.forall_mem_cons.2 ⟨fun a w=>Try.call141 a w,List.forall_mem_cons.2 ⟨fun a w=>Try.call142 a w,List.forall_mem_cons.2 ⟨fun a w=>Try.call143 a w,List.forall_mem_cons.2 ⟨fun a w=>Try.call158 a w,List.forall_mem_cons.2 ⟨fun a w=>Try.call163 a w,List.forall_mem_cons.2 ⟨fun a w=>Try.call164 a w,List.forall_mem_cons.2 ⟨fun a w=>Try.call165 a w,List.forall_mem_cons.2 ⟨fun a w=>Try.call166 a w,List.forall_mem_cons.2 ⟨fun a w=>Try.call179 a w,List.forall_mem_cons.2 ⟨fun a w=>Try.call180 a w,List.forall_mem_cons.2 ⟨fun a w=>Try.call181 a w,List.forall_mem_cons.2 ⟨fun a w=>Try.call182 a w,List.forall_mem_cons.2 ⟨fun a w=>Try.call183 a w,List.forall_mem_cons.2 ⟨fun a w=>Try.call184 a w,List.forall_mem_cons.2 ⟨fun a w=>Try.call194 a w,List.forall_mem_cons.2 ⟨fun a w=>Try.call195 a w,List.forall_mem_cons.2 ⟨fun a w=>Try.call204 a w,List.forall_mem_cons.2 ⟨fun a w=>Try.call211 a w,List.forall_mem_cons.2 ⟨fun a w=>Try.call212 a w,List.forall_mem_cons.2 ⟨fun a w=>Try.call213 a w,List.forall_mem_cons.2 ⟨fun a w=>Try.call229 a w,(fun _ h=>nomatch h)⟩⟩⟩⟩⟩⟩⟩⟩⟩⟩⟩⟩⟩⟩⟩⟩⟩⟩⟩⟩⟩⟩⟩⟩⟩⟩⟩⟩⟩⟩⟩⟩⟩⟩⟩⟩⟩⟩⟩⟩⟩⟩⟩⟩⟩⟩⟩⟩⟩⟩⟩⟩⟩⟩⟩⟩⟩⟩⟩⟩⟩⟩⟩⟩⟩⟩⟩⟩⟩⟩⟩⟩⟩⟩⟩⟩⟩⟩⟩⟩⟩⟩⟩⟩⟩⟩⟩⟩⟩⟩⟩⟩⟩⟩⟩⟩⟩⟩⟩⟩
abbrev zN:Option (Bool × List K):=none
abbrev zI:Option (Bool × List K):=some (false,[(.int .i64)])
abbrev zA:Option (Bool × List K):=some (false,[.addr])
abbrev zB:Option (Bool × List K):=some (false,[.bool])
abbrev zS:Option (Bool × List K):=some (false,[.slice])
abbrev zP:Option (Bool × List K):=some (false,[.ptr])
abbrev zT:Option (Bool × List K):=some (false,[.str])
abbrev zL:Ann:=.leaf
abbrev zq (a b:Ann):Ann:=.seq none a b
def a3 : Ann:=(zq zL (zq zL (zq zL (zq (zq zL (.cond (zq zL zL) zL)) (zq zL (zq (zq zL (.cond (zq zL zL) zL)) (zq zL (zq zL (zq zL (zq zL (zq (.seq (some [zN,zI,zN,zA,zN,zA,zN,zN,zA,zB,zA,zA,zA,zB,zN,zN,zN,zN,zN,zN,zN,zN,zN,zN,zN,zN,zN,zN,zN,zN,zN,zN,zN,zN,zN,zN,zN,zN,zN,zN,zN,zN,zN,zN,zN,zN,zN,zN,zN,zN,zN,zN,zN,zN,zN,zN,zN,zB,zN,zN,zN,zN,zN,zN,zN,zN,zN,zN,zN,zN,zN,zN,zN,zN,zN,zN,zN,zN,zN,zN,zN,zN,zN,zN,zN,zN,zN,zN,zN,zN,zN,zN,zN,zN,zN,zN,zN,zN,zN,zN,zN,zN,zN,zN,zN,zN,zN,zN,zN,zN,zN,zN,zN,zN,zN,zN,zN,zN,zN,zN,zN,zN,zN,zN]) zL (.cond (zq zL zL) zL)) (zq (zq zL (.cond (zq zL zL) zL)) (zq (zq zL (.cond (zq zL zL) zL)) (zq zL (zq zL (zq zL (zq (.seq (some [zN,zI,zN,zA,zN,zA,zN,zN,zA,zB,zN,zN,zA,zN,zN,zN,zN,zN,zN,zN,zN,zN,zN,zN,zN,zN,zN,zN,zN,zN,zN,zN,zN,zN,zN,zN,zN,zN,zN,zN,zN,zN,zN,zN,zN,zN,zN,zN,zN,zN,zN,zN,zN,zN,zN,zN,zN,zN,zN,zN,zN,zN,zN,zN,zN,zN,zN,zN,zN,zN,zN,zN,zN,zN,zN,zN,zN,zN,zN,zN,zN,zN,zN,zN,zN,zN,zB,zN,zN,zN,zN,zN,zN,zN,zN,zN,zN,zN,zN,zN,zN,zN,zN,zN,zN,zN,zN,zN,zN,zN,zN,zN,zN,zN,zN,zN,zN,zN,zN,zN,zN,zN,zN,zN]) zL (.cond (zq zL zL) zL)) (zq zL (zq zL (zq zL (zq zL (zq (zq zL (.cond (zq zL zL) zL)) (zq (zq zL (.cond (zq zL zL) zL)) (zq zL (zq (.seq (some [zN,zN,zN,zN,zN,zN,zN,zN,zN,zN,zN,zN,zA,zN,zN,zI,zN,zN,zN,zN,zN,zN,zN,zN,zN,zN,zN,zN,zN,zN,zN,zN,zN,zN,zN,zN,zN,zN,zN,zN,zN,zN,zN,zN,zN,zN,zN,zN,zN,zN,zN,zN,zN,zN,zN,zN,zN,zN,zN,zN,zN,zN,zN,zN,zN,zN,zN,zN,zN,zN,zN,zN,zN,zN,zN,zN,zN,zN,zN,zN,zN,zN,zN,zN,zN,zN,zN,zN,zN,zN,zN,zN,zN,zN,zN,zN,zN,zN,zN,zN,zN,zN,zN,zN,zN,zN,zN,zN,zN,zN,zN,zN,zN,zN,zN,zB,zN,zN,zN,zN,zN,zN,zN,zN]) zL (.cond (zq zL zL) zL)) (zq zL (zq zL (zq (zq zL (.cond (zq zL zL) zL)) (zq (zq zL (.cond (zq zL zL) zL)) (zq zL zL))))))))))))))))))))))))))))))
def a11 : Ann:=(zq zL (zq zL (zq (zq zL (.cond (zq zL zL) zL)) (zq zL (zq (zq zL (.cond (zq zL zL) zL)) (zq zL (zq (zq zL (.cond (zq zL zL) zL)) (zq zL zL))))))))
def a12 : Ann:=(zq zL (zq zL (zq (zq zL (.cond (zq zL zL) zL)) (zq zL (zq (zq zL (.cond (zq zL zL) zL)) (zq zL zL))))))
def a13 : Ann:=(zq zL (zq zL (zq (.seq (some [zN,zI,zN,zN,zN,zA,zA,zN,zA,zN,zN,zN,zN,zN,zN,zN,zN,zN,zN,zB,zN,zN,zN,zN,zN,zN]) zL (.cond (zq zL zL) zL)) (zq zL (zq zL zL)))))
def a14 : Ann:=(zq zL (zq zL (zq zL (zq zL (zq zL (zq zL (zq zL zL)))))))
def a15 : Ann:=(zq zL (zq zL (zq zL (zq zL (zq zL (zq zL (zq zL zL)))))))
def a16 : Ann:=(zq zL (zq zL (zq (.seq (some [zN,zN,zN,zA,zN,zN,zA,zN,zA,zN,zN,zN,zN,zN,zN,zN,zN,zN,zN,zN,zN,zN,zN,zN,zB,zN,zN,zN]) zL (.cond (zq zL zL) zL)) (zq zL zL))))
def a17 : Ann:=(zq zL (zq (zq zL (.cond (zq zL zL) zL)) (zq (zq zL (.cond (zq zL zL) zL)) (zq (zq zL (.cond (zq zL zL) zL)) (zq (zq zL (.cond (zq zL zL) zL)) (zq zL zL))))))
def a18 : Ann:=(zq zL (zq (zq zL (.cond (zq zL zL) zL)) (zq (zq zL (.cond (zq zL zL) zL)) (zq (zq zL (.cond (zq zL zL) zL)) (zq (zq zL (.cond (zq zL zL) zL)) (zq zL zL))))))
def a19 : Ann:=(zq zL (zq zL (zq zL (zq zL (zq zL zL)))))
def a20 : Ann:=(zq zL (zq zL (zq zL zL)))
def a21 : Ann:=(zq zL (zq zL (zq (zq zL (.cond (zq zL zL) zL)) (zq zL (zq (zq zL (.cond (zq zL zL) zL)) (zq zL (zq (zq zL (.cond (zq zL zL) zL)) (zq zL zL))))))))
def a25 : Ann:=(zq zL (zq zL zL))
def s26_1 : Shape:=[zN,zA,zN,zN,zA,zN,zN,zN,zN,zN,zN,zN,zN,zN,zN,zN,zN,zN,zN,zN,zN,zN,zN,zN,zN,zN,zN,zN,zN,zN,zN,zS,zI,zI,zN,zN,zN,zN,zN,zN,zN,zN,zN,zN,zN,zN,zN,zN,zN,zN,zN,zN,zN,zN,zN,zN,zN,zN,zN,zN,zN,zN,zN,zN,zN,zN,zN,zS,zI,zI,zN,zN,zN,zN,zN,zN,zN,zN,zN,zN,zN,zN,zN,zN,zN,zN,zN,zN,zN,zN,zN]
def e26_1 : List (Nat × Shape):=[(1,[zN,zN,zB,zN,zN,zN,zN,zN,zN,zN,zN,zN,zN,zN,zN,zN,zN,zN,zN,zN,zN,zN,zN,zN,zN,zN,zN,zN,zN,zN,zN,zN,zN,zN,zN,zN,zN,zN,zN,zN,zN,zN,zN,zN,zN,zN,zN,zN,zN,zN,zN,zN,zN,zN,zN,zN,zN,zN,zN,zN,zN,zN,zN,zN,zN,zN,zN,zN,zN,zN,zN,zN,zN,zN,zN,zN,zN,zN,zN,zN,zN,zN,zN,zN,zN,zN,zN,zN,zN,zN,zN]),(4,[zN,zA,zN,zN,zN,zN,zN,zN,zN,zN,zN,zN,zN,zN,zN,zN,zN,zN,zN,zN,zN,zN,zN,zN,zN,zN,zN,zN,zN,zN,zN,zS,zI,zI,zN,zN,zN,zN,zN,zN,zN,zN,zN,zN,zN,zN,zN,zN,zN,zN,zN,zN,zN,zN,zN,zN,zN,zN,zN,zN,zN,zN,zN,zN,zN,zN,zN,zN,zN,zN,zN,zN,zN,zN,zN,zN,zN,zN,zN,zN,zN,zN,zN,zN,zN,zN,zN,zN,zN,zN,zN])]
def a26_1 : Ann:=(zq zL (zq (.cond zL zL) (zq (.block (zq zL (zq zL (.seq (some [zN,zA,zN,zN,zA,zN,zN,zN,zN,zN,zN,zN,zN,zN,zN,zN,zN,zN,zN,zN,zN,zN,zN,zN,zN,zN,zN,zN,zN,zN,zN,zS,zI,zI,zN,zN,zN,zN,zN,zN,zN,zN,zN,zN,zN,zN,zN,zN,zN,zN,zN,zN,zN,zN,zN,zN,zN,zN,zN,zN,zN,zN,zN,zN,zN,zN,zN,zS,zI,zI,zN,zN,zN,zN,zN,zN,zN,zN,zN,zN,zN,zN,zN,zN,zN,zN,zN,zN,zB,zN,zN]) zL (.cond (zq zL zL) zL))))) zL)))
def s26_0 : Shape:=[zN,zA,zN,zN,zN,zN,zN,zN,zN,zN,zN,zN,zN,zN,zN,zN,zN,zN,zN,zN,zN,zN,zN,zN,zN,zN,zN,zN,zN,zN,zN,zS,zI,zI,zN,zN,zN,zN,zN,zN,zN,zN,zN,zN,zN,zN,zN,zN,zN,zN,zN,zN,zN,zN,zN,zN,zN,zN,zN,zN,zN,zN,zN,zN,zN,zN,zN,zN,zN,zN,zN,zN,zN,zN,zN,zN,zN,zN,zN,zN,zN,zN,zN,zN,zN,zN,zN,zN,zN,zN,zN]
def e26_0 : List (Nat × Shape):=[(1,[zN,zN,zB,zN,zN,zN,zN,zN,zN,zN,zN,zN,zN,zN,zN,zN,zN,zN,zN,zN,zN,zN,zN,zN,zN,zN,zN,zN,zN,zN,zN,zN,zN,zN,zN,zN,zN,zN,zN,zN,zN,zN,zN,zN,zN,zN,zN,zN,zN,zN,zN,zN,zN,zN,zN,zN,zN,zN,zN,zN,zN,zN,zN,zN,zN,zN,zN,zN,zN,zN,zN,zN,zN,zN,zN,zN,zN,zN,zN,zN,zN,zN,zN,zN,zN,zN,zN,zN,zN,zN,zN]),(2,[zN,zN,zN,zN,zN,zN,zN,zN,zN,zN,zN,zN,zN,zN,zN,zN,zN,zN,zN,zN,zN,zN,zN,zN,zN,zN,zN,zN,zN,zN,zN,zN,zN,zN,zN,zN,zN,zN,zN,zN,zN,zN,zN,zN,zN,zN,zN,zN,zN,zN,zN,zN,zN,zN,zN,zN,zN,zN,zN,zN,zN,zN,zN,zN,zN,zN,zN,zN,zN,zN,zN,zN,zN,zN,zN,zN,zN,zN,zN,zN,zN,zN,zN,zN,zN,zN,zN,zN,zN,zN,zN])]
def a26_0 : Ann:=(zq zL (zq (.cond zL zL) (zq (.block (zq zL (zq (.seq (some [zN,zA,zN,zN,zA,zN,zN,zN,zN,zN,zN,zN,zN,zN,zN,zN,zN,zN,zN,zN,zN,zN,zN,zN,zN,zN,zN,zN,zN,zN,zN,zS,zI,zI,zN,zN,zN,zN,zN,zN,zN,zN,zN,zN,zN,zN,zN,zN,zN,zN,zN,zN,zN,zN,zN,zN,zN,zN,zN,zN,zN,zN,zN,zN,zN,zB,zN,zN,zN,zN,zN,zN,zN,zN,zN,zN,zN,zN,zN,zN,zN,zN,zN,zN,zN,zN,zN,zN,zN,zN,zN]) zL (.cond (zq zL zL) zL)) (zq zL (.block (.loop s26_1 e26_1 a26_1)))))) zL)))
def a26 : Ann:=(zq zL (zq (.seq (some [zN,zA,zN,zN,zN,zN,zN,zN,zN,zN,zN,zN,zN,zN,zN,zN,zN,zN,zN,zN,zN,zN,zN,zN,zN,zN,zN,zN,zN,zB,zN,zN,zN,zN,zN,zN,zN,zN,zN,zN,zN,zN,zN,zN,zN,zN,zN,zN,zN,zN,zN,zN,zN,zN,zN,zN,zN,zN,zN,zN,zN,zN,zN,zN,zN,zN,zN,zN,zN,zN,zN,zN,zN,zN,zN,zN,zN,zN,zN,zN,zN,zN,zN,zN,zN,zN,zN,zN,zN,zN,zN]) zL (.cond (zq zL zL) zL)) (zq (zq zL (.block (.loop s26_0 e26_0 a26_0))) (zq zL zL))))
def s27_0 : Shape:=[zN,zA,zN,zI,zN,zN,zN,zN,zN,zN,zN,zN,zN,zN,zN,zN,zN,zN,zN,zN,zN,zN,zN,zN,zN,zN,zN,zN,zN,zN,zN,zN,zN,zN,zN,zN,zN,zN,zN,zN,zN,zN,zN,zN,zN,zN,zN,zN,zN,zN,zN,zN,zN,zN,zN,zN,zN,zN,zN,zN,zN,zN,zN,zN,zN,zN,zN,zN,zN,zN,zN,zN,zN]
def e27_0 : List (Nat × Shape):=[(1,[zN,zN,zB,zN,zN,zN,zN,zN,zN,zN,zN,zN,zN,zN,zN,zN,zN,zN,zN,zN,zN,zN,zN,zN,zN,zN,zN,zN,zN,zN,zN,zN,zN,zN,zN,zN,zN,zN,zN,zN,zN,zN,zN,zN,zN,zN,zN,zN,zN,zN,zN,zN,zN,zN,zN,zN,zN,zN,zN,zN,zN,zN,zN,zN,zN,zN,zN,zN,zN,zN,zN,zN,zN]),(2,[zN,zN,zN,zN,zN,zN,zN,zN,zN,zN,zN,zN,zN,zN,zN,zN,zN,zN,zN,zN,zN,zN,zN,zN,zN,zN,zN,zN,zN,zN,zN,zN,zN,zN,zN,zN,zN,zN,zN,zN,zN,zN,zN,zN,zN,zN,zN,zN,zN,zN,zN,zN,zN,zN,zN,zN,zN,zN,zN,zN,zN,zN,zN,zN,zN,zN,zN,zN,zN,zN,zN,zN,zN])]
def a27_0 : Ann:=(zq (zq zL (.cond zL zL)) (zq (.block (zq zL (.seq (some [zN,zA,zN,zI,zN,zN,zN,zN,zN,zN,zN,zN,zN,zN,zN,zN,zN,zN,zN,zN,zN,zN,zN,zN,zN,zN,zN,zN,zN,zN,zN,zN,zN,zN,zN,zN,zN,zN,zN,zN,zN,zN,zN,zN,zN,zN,zN,zN,zN,zN,zN,zN,zN,zN,zN,zN,zN,zN,zN,zN,zN,zN,zN,zN,zN,zN,zN,zN,zN,zN,zN,zN,zB]) zL (.cond (zq zL zL) zL)))) zL))
def a27 : Ann:=(zq zL (zq (.seq (some [zN,zA,zN,zN,zN,zN,zN,zN,zN,zN,zN,zN,zN,zN,zN,zN,zN,zN,zN,zN,zN,zN,zN,zN,zN,zN,zB,zN,zN,zN,zN,zN,zN,zN,zN,zN,zN,zN,zN,zN,zN,zN,zN,zN,zN,zN,zN,zN,zN,zN,zN,zN,zN,zN,zN,zN,zN,zN,zN,zN,zN,zN,zN,zN,zN,zN,zN,zN,zN,zN,zN,zN,zN]) zL (.cond (zq zL zL) zL)) (zq (zq zL (.block (.loop s27_0 e27_0 a27_0))) (zq zL zL))))
def s33_0 : Shape:=[zS,zN,zN,zS,zI,zN,zN,zN,zN,zN,zN,zN,zN,zN,zN,zN,zN,zN,zN,zN,zN,zN]
def e33_0 : List (Nat × Shape):=[(2,[zN,zN,zN,zS,zN,zN,zN,zN,zN,zN,zN,zN,zN,zN,zN,zN,zN,zN,zN,zN,zN,zN])]
def a33_0 : Ann:=(zq (zq zL (.cond zL zL)) (zq (.block zL) zL))
def a33 : Ann:=(zq zL (zq zL (zq (zq zL (.block (.loop s33_0 e33_0 a33_0))) (zq zL zL))))
def s37_0 : Shape:=[zS,zS,zN,zN,zN,zI,zN,zN,zN,zN,zN,zN,zN,zN,zN,zN,zN,zN,zN,zN,zN,zN,zN,zN,zN,zN]
def e37_0 : List (Nat × Shape):=[(1,[zN,zN,zN,zN,zB,zN,zN,zN,zN,zN,zN,zN,zN,zN,zN,zN,zN,zN,zN,zN,zN,zN,zN,zN,zN,zN]),(2,[zN,zN,zN,zN,zN,zN,zN,zN,zN,zN,zN,zN,zN,zN,zN,zN,zN,zN,zN,zN,zN,zN,zN,zN,zN,zN])]
def a37_0 : Ann:=(zq (zq zL (.cond zL zL)) (zq (.block (zq zL (.cond (zq zL zL) zL))) zL))
def a37 : Ann:=(zq zL (zq (zq zL (.cond (zq zL zL) zL)) (zq (zq zL (.block (.loop s37_0 e37_0 a37_0))) (zq zL zL))))
def s42_0 : Shape:=[zS,zI,zN,zN,zN,zI,zN,zN,zN,zN,zN,zN,zN,zN,zN,zN,zN,zN,zN]
def e42_0 : List (Nat × Shape):=[(2,[zN,zI,zN,zN,zN,zN,zN,zN,zN,zN,zN,zN,zN,zN,zN,zN,zN,zN,zN])]
def a42_0 : Ann:=(zq (zq zL (.cond zL zL)) (zq (.block (zq zL zL)) zL))
def a42 : Ann:=(zq zL (zq (zq zL (.block (.loop s42_0 e42_0 a42_0))) (zq zL zL)))
def s44_0 : Shape:=[zS,zI,zN,zN,zN,zI,zN,zN,zN,zN,zN,zN,zN,zN,zN,zN,zN,zN,zN,zN,zN]
def e44_0 : List (Nat × Shape):=[(1,[zN,zN,zN,zN,zI,zN,zN,zN,zN,zN,zN,zN,zN,zN,zN,zN,zN,zN,zN,zN,zN]),(2,[zN,zI,zN,zN,zN,zN,zN,zN,zN,zN,zN,zN,zN,zN,zN,zN,zN,zN,zN,zN,zN])]
def a44_0 : Ann:=(zq (zq zL (.cond zL zL)) (zq (.block (zq (zq zL (.cond (zq zL zL) zL)) zL)) zL))
def a44 : Ann:=(zq zL (zq (zq zL (.block (.loop s44_0 e44_0 a44_0))) (zq zL zL)))
def s53_0 : Shape:=[zS,zI,zN,zN,zN,zI,zN,zN,zN,zN,zN,zN,zN,zN,zN,zN,zN,zN,zN,zN,zN,zN,zN,zN,zN,zN,zN]
def e53_0 : List (Nat × Shape):=[(1,[zN,zN,zN,zN,zI,zN,zN,zN,zN,zN,zN,zN,zN,zN,zN,zN,zN,zN,zN,zN,zN,zN,zN,zN,zN,zN,zN]),(2,[zN,zI,zN,zN,zN,zN,zN,zN,zN,zN,zN,zN,zN,zN,zN,zN,zN,zN,zN,zN,zN,zN,zN,zN,zN,zN,zN])]
def a53_0 : Ann:=(zq (zq zL (.cond zL zL)) (zq (.block (zq zL (zq zL (.cond (zq zL zL) zL)))) zL))
def a53 : Ann:=(zq zL (zq zL (zq (zq zL (.cond (zq zL zL) zL)) (zq (zq zL (.block (.loop s53_0 e53_0 a53_0))) (zq zL zL)))))
def s54_0 : Shape:=[zS,zI,zN,zN,zN,zI,zN,zN,zN,zN,zN,zN,zN,zN,zN,zN,zN,zN,zN,zN,zN,zN,zN,zN,zN,zN,zN]
def e54_0 : List (Nat × Shape):=[(1,[zN,zN,zN,zN,zI,zN,zN,zN,zN,zN,zN,zN,zN,zN,zN,zN,zN,zN,zN,zN,zN,zN,zN,zN,zN,zN,zN]),(2,[zN,zI,zN,zN,zN,zN,zN,zN,zN,zN,zN,zN,zN,zN,zN,zN,zN,zN,zN,zN,zN,zN,zN,zN,zN,zN,zN])]
def a54_0 : Ann:=(zq (zq zL (.cond zL zL)) (zq (.block (zq zL (zq zL (.cond (zq zL zL) zL)))) zL))
def a54 : Ann:=(zq zL (zq zL (zq (zq zL (.cond (zq zL zL) zL)) (zq (zq zL (.block (.loop s54_0 e54_0 a54_0))) (zq zL zL)))))
def s55_0 : Shape:=[zS,zI,zN,zN,zN,zI,zN,zN,zN,zN,zN,zN,zN,zN,zN,zN,zN,zN,zN,zN,zN,zN,zN,zN,zN,zN,zN]
def e55_0 : List (Nat × Shape):=[(1,[zN,zN,zN,zN,zI,zN,zN,zN,zN,zN,zN,zN,zN,zN,zN,zN,zN,zN,zN,zN,zN,zN,zN,zN,zN,zN,zN]),(2,[zN,zI,zN,zN,zN,zN,zN,zN,zN,zN,zN,zN,zN,zN,zN,zN,zN,zN,zN,zN,zN,zN,zN,zN,zN,zN,zN])]
def a55_0 : Ann:=(zq (zq zL (.cond zL zL)) (zq (.block (zq zL (zq zL (.cond (zq zL zL) zL)))) zL))
def a55 : Ann:=(zq zL (zq zL (zq (zq zL (.cond (zq zL zL) zL)) (zq (zq zL (.block (.loop s55_0 e55_0 a55_0))) (zq zL zL)))))
def s56_0 : Shape:=[zS,zI,zN,zN,zN,zI,zN,zN,zN,zN,zN,zN,zN,zN,zN,zN,zN,zN,zN,zN,zN,zN,zN,zN,zN,zN,zN]
def e56_0 : List (Nat × Shape):=[(1,[zN,zN,zN,zN,zI,zN,zN,zN,zN,zN,zN,zN,zN,zN,zN,zN,zN,zN,zN,zN,zN,zN,zN,zN,zN,zN,zN]),(2,[zN,zI,zN,zN,zN,zN,zN,zN,zN,zN,zN,zN,zN,zN,zN,zN,zN,zN,zN,zN,zN,zN,zN,zN,zN,zN,zN])]
def a56_0 : Ann:=(zq (zq zL (.cond zL zL)) (zq (.block (zq zL (zq zL (.cond (zq zL zL) zL)))) zL))
def a56 : Ann:=(zq zL (zq zL (zq (zq zL (.cond (zq zL zL) zL)) (zq (zq zL (.block (.loop s56_0 e56_0 a56_0))) (zq zL zL)))))
def s57_1 : Shape:=[zN,zA,zA,zA,zN,zI,zN,zN,zN,zN,zN,zN,zN,zN,zN,zN,zN,zN,zN,zN,zN,zN,zN,zN,zN,zN,zN,zN,zN,zN,zN,zN,zN,zN,zN,zN,zN,zN,zN,zN,zN,zN,zN,zN,zN,zN,zN,zN,zN,zN,zN,zN,zN,zN,zN]
def e57_1 : List (Nat × Shape):=[(4,[zN,zN,zA,zA,zN,zN,zN,zN,zN,zN,zN,zN,zN,zN,zN,zN,zN,zN,zN,zN,zN,zN,zN,zN,zN,zN,zN,zN,zN,zN,zN,zN,zN,zN,zN,zN,zN,zN,zN,zN,zN,zN,zN,zN,zN,zN,zN,zN,zN,zN,zN,zN,zN,zN,zN])]
def a57_1 : Ann:=(zq (zq zL (.cond zL zL)) (zq (.block (zq zL (zq zL zL))) zL))
def s57_0 : Shape:=[zN,zA,zA,zA,zI,zN,zN,zN,zN,zN,zN,zN,zN,zN,zN,zN,zN,zN,zN,zN,zN,zN,zN,zN,zN,zN,zN,zN,zN,zN,zN,zN,zN,zN,zN,zN,zN,zN,zN,zN,zN,zN,zN,zN,zN,zN,zN,zN,zN,zN,zN,zN,zN,zN,zN]
def e57_0 : List (Nat × Shape):=[(2,[zN,zA,zA,zA,zN,zN,zN,zN,zN,zN,zN,zN,zN,zN,zN,zN,zN,zN,zN,zN,zN,zN,zN,zN,zN,zN,zN,zN,zN,zN,zN,zN,zN,zN,zN,zN,zN,zN,zN,zN,zN,zN,zN,zN,zN,zN,zN,zN,zN,zN,zN,zN,zN,zN,zN])]
def a57_0 : Ann:=(zq (zq zL (.cond zL zL)) (zq (.block zL) zL))
def a57 : Ann:=(zq zL (zq zL (zq (zq zL (.block (.loop s57_0 e57_0 a57_0))) (zq (zq zL (.block (.loop s57_1 e57_1 a57_1))) (zq zL zL)))))
def a58 : Ann:=(zq zL (zq zL zL))
def a59 : Ann:=(zq zL (zq zL (zq (.seq (some [zP,zN,zN,zN,zN,zA,zN,zI,zN,zN,zN,zN,zN,zN,zN,zN,zN,zN,zN,zN,zN,zN,zN,zN,zN,zN,zB,zN,zN,zN,zN,zN,zN,zN,zN,zN,zN,zN,zN,zN,zN,zN,zN,zN,zN,zN,zN,zN]) zL (.cond (zq zL zL) zL)) (zq zL (zq zL zL)))))
def s60_0 : Shape:=[zS,zN,zN,zS,zI,zN,zN,zN,zN,zN,zN,zN,zN,zN,zN,zN,zN,zN,zN,zN,zN,zN,zN]
def e60_0 : List (Nat × Shape):=[(2,[zN,zN,zN,zS,zN,zN,zN,zN,zN,zN,zN,zN,zN,zN,zN,zN,zN,zN,zN,zN,zN,zN,zN])]
def a60_0 : Ann:=(zq (zq zL (.cond zL zL)) (zq (.block zL) zL))
def a60 : Ann:=(zq zL (zq zL (zq (zq zL (.block (.loop s60_0 e60_0 a60_0))) (zq zL zL))))
def s61_0 : Shape:=[zS,zN,zN,zS,zI,zN,zN,zN,zN,zN,zN,zN,zN,zN,zN,zN,zN,zN,zN,zN,zN,zN,zN]
def e61_0 : List (Nat × Shape):=[(2,[zN,zN,zN,zS,zN,zN,zN,zN,zN,zN,zN,zN,zN,zN,zN,zN,zN,zN,zN,zN,zN,zN,zN])]
def a61_0 : Ann:=(zq (zq zL (.cond zL zL)) (zq (.block zL) zL))
def a61 : Ann:=(zq zL (zq zL (zq (zq zL (.block (.loop s61_0 e61_0 a61_0))) (zq zL zL))))
def s62_0 : Shape:=[zS,zN,zN,zS,zI,zN,zN,zN,zN,zN,zN,zN,zN,zN,zN,zN,zN,zN,zN,zN,zN,zN,zN]
def e62_0 : List (Nat × Shape):=[(2,[zN,zN,zN,zS,zN,zN,zN,zN,zN,zN,zN,zN,zN,zN,zN,zN,zN,zN,zN,zN,zN,zN,zN])]
def a62_0 : Ann:=(zq (zq zL (.cond zL zL)) (zq (.block zL) zL))
def a62 : Ann:=(zq zL (zq zL (zq (zq zL (.block (.loop s62_0 e62_0 a62_0))) (zq zL zL))))
def s63_0 : Shape:=[zS,zN,zN,zS,zI,zN,zN,zN,zN,zN,zN,zN,zN,zN,zN,zN,zN,zN,zN,zN,zN,zN,zN]
def e63_0 : List (Nat × Shape):=[(2,[zN,zN,zN,zS,zN,zN,zN,zN,zN,zN,zN,zN,zN,zN,zN,zN,zN,zN,zN,zN,zN,zN,zN])]
def a63_0 : Ann:=(zq (zq zL (.cond zL zL)) (zq (.block zL) zL))
def a63 : Ann:=(zq zL (zq zL (zq (zq zL (.block (.loop s63_0 e63_0 a63_0))) (zq zL zL))))
def s64_0 : Shape:=[zN,zN,zA,zA,zN,zN,zN,zN,zN,zN,zN,zN,zN,zN,zN,zN,zS,zI,zI,zN,zN,zN,zN,zN,zN,zN,zN,zN,zN,zN,zN]
def e64_0 : List (Nat × Shape):=[(2,[zN,zN,zA,zA,zN,zN,zN,zN,zN,zN,zN,zN,zN,zN,zN,zN,zN,zN,zN,zN,zN,zN,zN,zN,zN,zN,zN,zN,zN,zN,zN])]
def a64_0 : Ann:=(zq zL (zq (.cond zL zL) (zq (.block (zq zL zL)) zL)))
def a64 : Ann:=(zq zL (zq zL (zq (zq zL (.block (.loop s64_0 e64_0 a64_0))) (zq zL zL))))
def a65 : Ann:=(zq zL (zq zL (zq zL zL)))
def a66 : Ann:=(zq zL (zq zL (zq (.seq (some [zP,zN,zN,zN,zN,zA,zN,zI,zN,zN,zN,zN,zN,zN,zN,zN,zN,zN,zN,zN,zN,zN,zN,zN,zB,zN,zN,zN,zN,zN,zN,zN,zN,zN,zN,zN,zN,zN,zN,zN,zN,zN,zN,zN,zN,zN,zN,zN,zN,zN,zN,zN,zN,zN,zN,zN,zN,zN,zN,zN,zN,zN]) zL (.cond (zq zL zL) zL)) (.seqk [38,58] (zq (.toss 25 26 4) (.cond (zq zL zL) zL)) (zq zL zL)))))
def s67_0 : Shape:=[zS,zS,zN,zN,zN,zI,zN,zN,zN,zN,zN,zN,zN,zN,zN,zN,zN,zN,zN,zN,zN,zN,zN,zN,zN,zN,zN]
def e67_0 : List (Nat × Shape):=[(1,[zN,zN,zN,zN,zB,zN,zN,zN,zN,zN,zN,zN,zN,zN,zN,zN,zN,zN,zN,zN,zN,zN,zN,zN,zN,zN,zN]),(2,[zN,zN,zN,zN,zN,zN,zN,zN,zN,zN,zN,zN,zN,zN,zN,zN,zN,zN,zN,zN,zN,zN,zN,zN,zN,zN,zN])]
def a67_0 : Ann:=(zq (zq zL (.cond zL zL)) (zq (.block (zq zL (.cond (zq zL zL) zL))) zL))
def a67 : Ann:=(zq zL (zq (zq zL (.cond (zq zL zL) zL)) (zq (zq zL (.block (.loop s67_0 e67_0 a67_0))) (zq zL zL))))
def s68_0 : Shape:=[zS,zS,zN,zN,zN,zI,zN,zN,zN,zN,zN,zN,zN,zN,zN,zN,zN,zN,zN,zN,zN,zN,zN,zN,zN,zN,zN]
def e68_0 : List (Nat × Shape):=[(1,[zN,zN,zN,zN,zB,zN,zN,zN,zN,zN,zN,zN,zN,zN,zN,zN,zN,zN,zN,zN,zN,zN,zN,zN,zN,zN,zN]),(2,[zN,zN,zN,zN,zN,zN,zN,zN,zN,zN,zN,zN,zN,zN,zN,zN,zN,zN,zN,zN,zN,zN,zN,zN,zN,zN,zN])]
def a68_0 : Ann:=(zq (zq zL (.cond zL zL)) (zq (.block (zq zL (.cond (zq zL zL) zL))) zL))
def a68 : Ann:=(zq zL (zq (zq zL (.cond (zq zL zL) zL)) (zq (zq zL (.block (.loop s68_0 e68_0 a68_0))) (zq zL zL))))
def s69_0 : Shape:=[zS,zS,zN,zN,zN,zI,zN,zN,zN,zN,zN,zN,zN,zN,zN,zN,zN,zN,zN,zN,zN,zN,zN,zN,zN,zN,zN]
def e69_0 : List (Nat × Shape):=[(1,[zN,zN,zN,zN,zB,zN,zN,zN,zN,zN,zN,zN,zN,zN,zN,zN,zN,zN,zN,zN,zN,zN,zN,zN,zN,zN,zN]),(2,[zN,zN,zN,zN,zN,zN,zN,zN,zN,zN,zN,zN,zN,zN,zN,zN,zN,zN,zN,zN,zN,zN,zN,zN,zN,zN,zN])]
def a69_0 : Ann:=(zq (zq zL (.cond zL zL)) (zq (.block (zq zL (.cond (zq zL zL) zL))) zL))
def a69 : Ann:=(zq zL (zq (zq zL (.cond (zq zL zL) zL)) (zq (zq zL (.block (.loop s69_0 e69_0 a69_0))) (zq zL zL))))
def s70_0 : Shape:=[zS,zS,zN,zN,zN,zI,zN,zN,zN,zN,zN,zN,zN,zN,zN,zN,zN,zN,zN,zN,zN,zN,zN,zN,zN,zN,zN]
def e70_0 : List (Nat × Shape):=[(1,[zN,zN,zN,zN,zB,zN,zN,zN,zN,zN,zN,zN,zN,zN,zN,zN,zN,zN,zN,zN,zN,zN,zN,zN,zN,zN,zN]),(2,[zN,zN,zN,zN,zN,zN,zN,zN,zN,zN,zN,zN,zN,zN,zN,zN,zN,zN,zN,zN,zN,zN,zN,zN,zN,zN,zN])]
def a70_0 : Ann:=(zq (zq zL (.cond zL zL)) (zq (.block (zq zL (.cond (zq zL zL) zL))) zL))
def a70 : Ann:=(zq zL (zq (zq zL (.cond (zq zL zL) zL)) (zq (zq zL (.block (.loop s70_0 e70_0 a70_0))) (zq zL zL))))
def s71_0 : Shape:=[zS,zI,zN,zN,zN,zI,zN,zN,zN,zN,zN,zN,zN,zN,zN,zN,zN,zN,zN,zN,zN,zN,zN,zN,zN,zN,zN,zN,zN,zN,zN,zN,zN,zN,zN,zN,zN,zN,zN,zN,zN,zN,zN,zN,zN,zN,zN,zN,zN,zN,zN,zN,zN,zN,zN,zN]
def e71_0 : List (Nat × Shape):=[(2,[zN,zI,zN,zN,zN,zN,zN,zN,zN,zN,zN,zN,zN,zN,zN,zN,zN,zN,zN,zN,zN,zN,zN,zN,zN,zN,zN,zN,zN,zN,zN,zN,zN,zN,zN,zN,zN,zN,zN,zN,zN,zN,zN,zN,zN,zN,zN,zN,zN,zN,zN,zN,zN,zN,zN,zN])]
def a71_0 : Ann:=(zq (zq zL (.cond zL zL)) (zq (.block (zq zL (zq zL (zq zL (zq zL (zq zL (zq zL (zq zL (zq zL (zq zL (zq zL (zq zL zL)))))))))))) zL))
def a71 : Ann:=(zq zL (zq (zq zL (.block (.loop s71_0 e71_0 a71_0))) (zq zL zL)))
def s72_0 : Shape:=[zS,zI,zN,zN,zN,zI,zN,zN,zN,zN,zN,zN,zN,zN,zN,zN,zN,zN,zN,zN,zN,zN,zN,zN,zN,zN,zN,zN,zN,zN,zN,zN,zN,zN,zN,zN,zN,zN,zN,zN,zN,zN,zN,zN,zN,zN,zN,zN]
def e72_0 : List (Nat × Shape):=[(2,[zN,zI,zN,zN,zN,zN,zN,zN,zN,zN,zN,zN,zN,zN,zN,zN,zN,zN,zN,zN,zN,zN,zN,zN,zN,zN,zN,zN,zN,zN,zN,zN,zN,zN,zN,zN,zN,zN,zN,zN,zN,zN,zN,zN,zN,zN,zN,zN])]
def a72_0 : Ann:=(zq (zq zL (.cond zL zL)) (zq (.block (zq zL (zq zL (zq zL (zq zL (zq zL (zq zL zL))))))) zL))
def a72 : Ann:=(zq zL (zq (zq zL (.block (.loop s72_0 e72_0 a72_0))) (zq zL zL)))
def s73_0 : Shape:=[zS,zI,zN,zN,zN,zI,zN,zN,zN,zN,zN,zN,zN,zN,zN,zN,zN,zN,zN,zN,zN,zN,zN,zN,zN,zN,zN,zN,zN,zN,zN,zN,zN,zN,zN,zN,zN,zN,zN,zN,zN,zN,zN,zN,zN,zN,zN,zN,zN,zN,zN,zN,zN,zN,zN,zN,zN,zN,zN,zN]
def e73_0 : List (Nat × Shape):=[(2,[zN,zI,zN,zN,zN,zN,zN,zN,zN,zN,zN,zN,zN,zN,zN,zN,zN,zN,zN,zN,zN,zN,zN,zN,zN,zN,zN,zN,zN,zN,zN,zN,zN,zN,zN,zN,zN,zN,zN,zN,zN,zN,zN,zN,zN,zN,zN,zN,zN,zN,zN,zN,zN,zN,zN,zN,zN,zN,zN,zN])]
def a73_0 : Ann:=(zq (zq zL (.cond zL zL)) (zq (.block (zq zL (zq zL (zq zL (zq zL (zq zL (zq zL (zq zL (zq zL (zq zL (zq zL zL))))))))))) zL))
def a73 : Ann:=(zq zL (zq (zq zL (.block (.loop s73_0 e73_0 a73_0))) (zq zL zL)))
def s74_0 : Shape:=[zS,zI,zN,zN,zN,zI,zN,zN,zN,zN,zN,zN,zN,zN,zN,zN,zN,zN,zN,zN,zN,zN,zN,zN,zN,zN,zN,zN,zN,zN,zN,zN,zN,zN,zN,zN,zN,zN,zN,zN,zN,zN]
def e74_0 : List (Nat × Shape):=[(2,[zN,zI,zN,zN,zN,zN,zN,zN,zN,zN,zN,zN,zN,zN,zN,zN,zN,zN,zN,zN,zN,zN,zN,zN,zN,zN,zN,zN,zN,zN,zN,zN,zN,zN,zN,zN,zN,zN,zN,zN,zN,zN])]
def a74_0 : Ann:=(zq (zq zL (.cond zL zL)) (zq (.block (zq zL (zq zL (zq zL (zq zL (zq zL (zq zL zL))))))) zL))
def a74 : Ann:=(zq zL (zq (zq zL (.block (.loop s74_0 e74_0 a74_0))) (zq zL zL)))
def s75_0 : Shape:=[zS,zI,zN,zN,zN,zI,zN,zN,zN,zN,zN,zN,zN,zN,zN,zN,zN,zN,zN,zN,zN,zN,zN,zN,zN,zN,zN,zN,zN,zN,zN,zN,zN,zN,zN,zN,zN,zN,zN,zN,zN,zN,zN,zN,zN,zN,zN,zN,zN,zN,zN,zN,zN,zN,zN,zN,zN,zN,zN,zN,zN,zN,zN,zN,zN,zN,zN,zN]
def e75_0 : List (Nat × Shape):=[(1,[zN,zN,zN,zN,zI,zN,zN,zN,zN,zN,zN,zN,zN,zN,zN,zN,zN,zN,zN,zN,zN,zN,zN,zN,zN,zN,zN,zN,zN,zN,zN,zN,zN,zN,zN,zN,zN,zN,zN,zN,zN,zN,zN,zN,zN,zN,zN,zN,zN,zN,zN,zN,zN,zN,zN,zN,zN,zN,zN,zN,zN,zN,zN,zN,zN,zN,zN,zN]),(2,[zN,zI,zN,zN,zN,zN,zN,zN,zN,zN,zN,zN,zN,zN,zN,zN,zN,zN,zN,zN,zN,zN,zN,zN,zN,zN,zN,zN,zN,zN,zN,zN,zN,zN,zN,zN,zN,zN,zN,zN,zN,zN,zN,zN,zN,zN,zN,zN,zN,zN,zN,zN,zN,zN,zN,zN,zN,zN,zN,zN,zN,zN,zN,zN,zN,zN,zN,zN])]
def a75_0 : Ann:=(zq (zq zL (.cond zL zL)) (zq (.block (zq (zq zL (.cond (zq zL zL) zL)) (zq zL (zq (zq zL (.cond (zq zL zL) zL)) (zq zL (zq (zq zL (.cond (zq zL zL) zL)) (zq zL (zq (zq zL (.cond (zq zL zL) zL)) (zq zL (zq (zq zL (.cond (zq zL zL) zL)) (zq zL (zq (zq zL (.cond (zq zL zL) zL)) zL)))))))))))) zL))
def a75 : Ann:=(zq zL (zq (zq zL (.block (.loop s75_0 e75_0 a75_0))) (zq zL zL)))
def s76_0 : Shape:=[zS,zI,zN,zN,zN,zI,zN,zN,zN,zN,zN,zN,zN,zN,zN,zN,zN,zN,zN,zN,zN,zN,zN,zN,zN,zN,zN,zN,zN,zN,zN,zN,zN,zN,zN,zN,zN,zN,zN,zN,zN,zN,zN,zN,zN,zN,zN,zN,zN,zN,zN,zN,zN,zN,zN,zN,zN,zN]
def e76_0 : List (Nat × Shape):=[(1,[zN,zN,zN,zN,zI,zN,zN,zN,zN,zN,zN,zN,zN,zN,zN,zN,zN,zN,zN,zN,zN,zN,zN,zN,zN,zN,zN,zN,zN,zN,zN,zN,zN,zN,zN,zN,zN,zN,zN,zN,zN,zN,zN,zN,zN,zN,zN,zN,zN,zN,zN,zN,zN,zN,zN,zN,zN,zN]),(2,[zN,zI,zN,zN,zN,zN,zN,zN,zN,zN,zN,zN,zN,zN,zN,zN,zN,zN,zN,zN,zN,zN,zN,zN,zN,zN,zN,zN,zN,zN,zN,zN,zN,zN,zN,zN,zN,zN,zN,zN,zN,zN,zN,zN,zN,zN,zN,zN,zN,zN,zN,zN,zN,zN,zN,zN,zN,zN])]
def a76_0 : Ann:=(zq (zq zL (.cond zL zL)) (zq (.block (zq (zq zL (.cond (zq zL zL) zL)) (zq zL (zq (zq zL (.cond (zq zL zL) zL)) (zq zL (zq zL (zq (zq zL (.cond (zq zL zL) zL)) (zq zL (zq (zq zL (.cond (zq zL zL) zL)) (zq zL (zq zL (.cond (zq zL zL) zL)))))))))))) zL))
def a76 : Ann:=(zq zL (zq (zq zL (.block (.loop s76_0 e76_0 a76_0))) (zq zL zL)))
def s77_0 : Shape:=[zS,zI,zN,zN,zN,zI,zN,zN,zN,zN,zN,zN,zN,zN,zN,zN,zN,zN,zN,zN,zN,zN,zN,zN,zN,zN,zN,zN,zN,zN,zN,zN,zN,zN,zN,zN,zN,zN,zN,zN,zN,zN,zN,zN,zN,zN,zN,zN,zN,zN,zN,zN,zN,zN,zN,zN,zN,zN,zN,zN,zN,zN,zN,zN,zN,zN,zN,zN,zN,zN,zN,zN]
def e77_0 : List (Nat × Shape):=[(1,[zN,zN,zN,zN,zI,zN,zN,zN,zN,zN,zN,zN,zN,zN,zN,zN,zN,zN,zN,zN,zN,zN,zN,zN,zN,zN,zN,zN,zN,zN,zN,zN,zN,zN,zN,zN,zN,zN,zN,zN,zN,zN,zN,zN,zN,zN,zN,zN,zN,zN,zN,zN,zN,zN,zN,zN,zN,zN,zN,zN,zN,zN,zN,zN,zN,zN,zN,zN,zN,zN,zN,zN]),(2,[zN,zI,zN,zN,zN,zN,zN,zN,zN,zN,zN,zN,zN,zN,zN,zN,zN,zN,zN,zN,zN,zN,zN,zN,zN,zN,zN,zN,zN,zN,zN,zN,zN,zN,zN,zN,zN,zN,zN,zN,zN,zN,zN,zN,zN,zN,zN,zN,zN,zN,zN,zN,zN,zN,zN,zN,zN,zN,zN,zN,zN,zN,zN,zN,zN,zN,zN,zN,zN,zN,zN,zN])]
def a77_0 : Ann:=(zq (zq zL (.cond zL zL)) (zq (.block (zq (zq zL (.cond (zq zL zL) zL)) (zq zL (zq (zq zL (.cond (zq zL zL) zL)) (zq zL (zq (zq zL (.cond (zq zL zL) zL)) (zq zL (zq (zq zL (.cond (zq zL zL) zL)) (zq zL (zq (zq zL (.cond (zq zL zL) zL)) (zq zL (zq zL (zq zL (.cond (zq zL zL) zL)))))))))))))) zL))
def a77 : Ann:=(zq zL (zq (zq zL (.block (.loop s77_0 e77_0 a77_0))) (zq zL zL)))
def s82_0 : Shape:=[zS,zN,zN,zI,zN,zN,zN,zN,zS,zI,zI,zN,zN,zN,zN,zN,zN,zN,zN,zN,zN,zN,zN,zN,zN,zN,zN,zN,zN,zN,zN,zN,zN,zN,zN,zN,zN,zN,zN]
def e82_0 : List (Nat × Shape):=[(1,[zN,zN,zB,zN,zN,zN,zN,zN,zN,zN,zN,zN,zN,zN,zN,zN,zN,zN,zN,zN,zN,zN,zN,zN,zN,zN,zN,zN,zN,zN,zN,zN,zN,zN,zN,zN,zN,zN,zN]),(2,[zS,zN,zN,zI,zN,zN,zN,zN,zN,zN,zN,zN,zN,zN,zN,zN,zN,zN,zN,zN,zN,zN,zN,zN,zN,zN,zN,zN,zN,zN,zN,zN,zN,zN,zN,zN,zN,zN,zN])]
def a82_0 : Ann:=(zq zL (zq (.cond zL zL) (zq (.block (zq zL (zq zL (.cond (zq zL zL) zL)))) zL)))
def a82 : Ann:=(zq zL (zq zL (zq (zq zL (.block (.loop s82_0 e82_0 a82_0))) (zq zL zL))))
def a83 : Ann:=(zq zL (zq zL zL))
def s84_0 : Shape:=[zN,zN,zN,zN,zN,zS,zI,zI,zN,zN,zN,zN,zN,zN,zN]
def e84_0 : List (Nat × Shape):=[(1,[zN,zN,zB,zN,zN,zN,zN,zN,zN,zN,zN,zN,zN,zN,zN]),(2,[zN,zN,zN,zN,zN,zN,zN,zN,zN,zN,zN,zN,zN,zN,zN])]
def a84_0 : Ann:=(zq zL (zq (.cond zL zL) (zq (.block (zq zL (zq zL (.cond (zq zL zL) zL)))) zL)))
def a84 : Ann:=(zq zL (zq (zq zL (.block (.loop s84_0 e84_0 a84_0))) (zq zL zL)))
def s85_0 : Shape:=[zS,zI,zN,zN,zN,zN,zN,zS,zI,zI,zN,zN,zN,zN,zN,zN,zN,zN,zN,zN,zN,zN,zN,zN,zN,zN,zN,zN,zN,zN,zN,zN,zN,zN,zN,zN,zN,zN,zN]
def e85_0 : List (Nat × Shape):=[(1,[zN,zN,zN,zN,zB,zN,zN,zN,zN,zN,zN,zN,zN,zN,zN,zN,zN,zN,zN,zN,zN,zN,zN,zN,zN,zN,zN,zN,zN,zN,zN,zN,zN,zN,zN,zN,zN,zN,zN]),(2,[zS,zN,zN,zN,zN,zN,zN,zN,zN,zN,zN,zN,zN,zN,zN,zN,zN,zN,zN,zN,zN,zN,zN,zN,zN,zN,zN,zN,zN,zN,zN,zN,zN,zN,zN,zN,zN,zN,zN])]
def a85_0 : Ann:=(zq zL (zq (.cond zL zL) (zq (.block (zq zL (.seq (some [zS,zI,zN,zN,zN,zN,zN,zS,zI,zI,zN,zN,zN,zN,zN,zN,zN,zN,zN,zN,zN,zN,zN,zN,zN,zN,zN,zN,zN,zN,zN,zN,zN,zN,zB,zN,zN,zN,zN]) zL (.cond (zq zL zL) zL)))) zL)))
def a85 : Ann:=(zq zL (zq (zq zL (.block (.loop s85_0 e85_0 a85_0))) (zq zL zL)))
def s86_0 : Shape:=[zS,zN,zN,zN,zN,zS,zI,zI,zN,zN,zN,zN,zN,zN,zN,zN,zN,zN,zN,zN,zN,zN,zN,zN,zN,zN,zN,zN,zN,zN,zN]
def e86_0 : List (Nat × Shape):=[(1,[zN,zN,zB,zN,zN,zN,zN,zN,zN,zN,zN,zN,zN,zN,zN,zN,zN,zN,zN,zN,zN,zN,zN,zN,zN,zN,zN,zN,zN,zN,zN]),(2,[zS,zN,zN,zN,zN,zN,zN,zN,zN,zN,zN,zN,zN,zN,zN,zN,zN,zN,zN,zN,zN,zN,zN,zN,zN,zN,zN,zN,zN,zN,zN])]
def a86_0 : Ann:=(zq zL (zq (.cond zL zL) (zq (.block (zq zL (.seq (some [zS,zN,zN,zN,zN,zS,zI,zI,zN,zN,zN,zN,zN,zN,zN,zN,zN,zN,zN,zN,zN,zN,zN,zN,zN,zN,zB,zN,zN,zN,zN]) zL (.cond (zq zL zL) zL)))) zL)))
def a86 : Ann:=(zq zL (zq (zq zL (.block (.loop s86_0 e86_0 a86_0))) (zq zL zL)))
def s87_0 : Shape:=[zN,zI,zN,zN,zN,zN,zN,zN,zN,zN,zS,zI,zI,zN,zN,zN,zN,zN,zN,zN,zN,zN,zN]
def e87_0 : List (Nat × Shape):=[(1,[zN,zN,zN,zN,zI,zN,zN,zN,zN,zN,zN,zN,zN,zN,zN,zN,zN,zN,zN,zN,zN,zN,zN]),(2,[zN,zN,zN,zN,zN,zN,zN,zN,zN,zN,zN,zN,zN,zN,zN,zN,zN,zN,zN,zN,zN,zN,zN])]
def a87_0 : Ann:=(zq zL (zq (.cond zL zL) (zq (.block (zq zL (zq zL (.cond (zq zL zL) zL)))) zL)))
def a87 : Ann:=(zq zL (zq (zq zL (.block (.loop s87_0 e87_0 a87_0))) (zq zL zL)))
def s88_0 : Shape:=[zN,zI,zN,zN,zN,zN,zN,zS,zI,zI,zN,zN,zN,zN,zN,zN,zN]
def e88_0 : List (Nat × Shape):=[(1,[zN,zN,zN,zN,zB,zN,zN,zN,zN,zN,zN,zN,zN,zN,zN,zN,zN]),(2,[zN,zN,zN,zN,zN,zN,zN,zN,zN,zN,zN,zN,zN,zN,zN,zN,zN])]
def a88_0 : Ann:=(zq zL (zq (.cond zL zL) (zq (.block (zq zL (zq zL (.cond (zq zL zL) zL)))) zL)))
def a88 : Ann:=(zq zL (zq (zq zL (.block (.loop s88_0 e88_0 a88_0))) (zq zL zL)))
def s89_0 : Shape:=[zS,zN,zN,zI,zI,zN,zN,zN,zN,zN,zN,zN,zN,zN,zN,zN,zN,zN,zN,zN,zN,zN,zN,zN,zN,zN,zN,zN,zN,zN,zN,zN,zN,zN,zN,zN,zN,zN,zN,zN]
def e89_0 : List (Nat × Shape):=[(1,[zN,zN,zB,zN,zN,zN,zN,zN,zN,zN,zN,zN,zN,zN,zN,zN,zN,zN,zN,zN,zN,zN,zN,zN,zN,zN,zN,zN,zN,zN,zN,zN,zN,zN,zN,zN,zN,zN,zN,zN]),(2,[zN,zN,zN,zN,zN,zN,zN,zN,zN,zN,zN,zN,zN,zN,zN,zN,zN,zN,zN,zN,zN,zN,zN,zN,zN,zN,zN,zN,zN,zN,zN,zN,zN,zN,zN,zN,zN,zN,zN,zN])]
def a89_0 : Ann:=(zq (zq zL (.cond zL zL)) (zq (.block (zq zL (.cond (zq zL zL) zL))) zL))
def a89 : Ann:=(zq zL (zq zL (zq (.seq (some [zS,zN,zN,zI,zN,zN,zN,zN,zN,zN,zN,zN,zN,zN,zN,zN,zN,zN,zN,zN,zN,zN,zN,zN,zN,zN,zN,zB,zN,zN,zN,zN,zN,zN,zN,zN,zN,zN,zN,zN]) zL (.cond (zq zL zL) zL)) (zq (zq zL (.block (.loop s89_0 e89_0 a89_0))) (zq zL zL)))))
def a90 : Ann:=(zq zL (zq zL zL))
def s91_0 : Shape:=[zS,zN,zN,zI,zN,zN,zN,zN,zN,zN,zN,zN,zN,zN,zN,zN,zN,zN,zN,zN,zN,zN,zN,zN,zN,zN,zN,zN,zN,zN,zN,zN,zN,zN,zN,zN,zN,zN]
def e91_0 : List (Nat × Shape):=[(1,[zN,zN,zB,zN,zN,zN,zN,zN,zN,zN,zN,zN,zN,zN,zN,zN,zN,zN,zN,zN,zN,zN,zN,zN,zN,zN,zN,zN,zN,zN,zN,zN,zN,zN,zN,zN,zN,zN]),(2,[zS,zN,zN,zN,zN,zN,zN,zN,zN,zN,zN,zN,zN,zN,zN,zN,zN,zN,zN,zN,zN,zN,zN,zN,zN,zN,zN,zN,zN,zN,zN,zN,zN,zN,zN,zN,zN,zN])]
def a91_0 : Ann:=(zq (zq zL (.cond zL zL)) (zq (.block (.seq (some [zS,zN,zN,zI,zN,zN,zN,zN,zN,zN,zN,zN,zN,zN,zN,zN,zN,zN,zN,zN,zN,zN,zN,zN,zN,zN,zN,zN,zN,zN,zN,zN,zN,zN,zB,zN,zN,zN]) zL (.cond (zq zL zL) zL))) zL))
def a91 : Ann:=(zq zL (zq (zq zL (.block (.loop s91_0 e91_0 a91_0))) (zq zL zL)))
def a92 : Ann:=(zq zL (zq (.seq (some [zN,zN,zN,zA,zN,zN,zN,zN,zN,zN,zN,zN,zN,zN,zN,zN,zN,zN,zN,zN,zN,zN,zN,zN,zN,zN,zN,zN,zN,zN,zN,zN,zN,zN,zB,zN,zN,zN,zN,zN,zN,zN,zN,zN,zN,zN,zN,zN,zN,zN]) zL (.cond (zq zL zL) zL)) (zq zL zL)))
def s93_0 : Shape:=[zN,zN,zA,zN,zN,zA,zI,zN,zN,zN,zN,zN,zN,zN,zN,zN,zN,zN,zN,zN,zN,zN,zN,zN,zN,zN,zN,zN,zN,zN,zN,zN,zN,zN,zN,zN,zN,zN,zN,zN,zN]
def e93_0 : List (Nat × Shape):=[(1,[zN,zN,zN,zN,zB,zN,zN,zN,zN,zN,zN,zN,zN,zN,zN,zN,zN,zN,zN,zN,zN,zN,zN,zN,zN,zN,zN,zN,zN,zN,zN,zN,zN,zN,zN,zN,zN,zN,zN,zN,zN]),(2,[zN,zN,zN,zN,zN,zN,zN,zN,zN,zN,zN,zN,zN,zN,zN,zN,zN,zN,zN,zN,zN,zN,zN,zN,zN,zN,zN,zN,zN,zN,zN,zN,zN,zN,zN,zN,zN,zN,zN,zN,zN])]
def a93_0 : Ann:=(zq (zq zL (.cond zL zL)) (zq (.block (zq zL (.seq (some [zN,zN,zA,zN,zN,zA,zI,zN,zN,zN,zN,zN,zN,zN,zN,zN,zN,zN,zN,zN,zN,zN,zN,zN,zN,zN,zN,zN,zN,zN,zN,zN,zN,zN,zN,zN,zN,zN,zN,zN,zB]) zL (.cond (zq zL zL) zL)))) zL))
def a93 : Ann:=(zq zL (zq zL (zq (zq zL (.block (.loop s93_0 e93_0 a93_0))) (zq zL zL))))
def a94 : Ann:=(zq zL (zq zL (zq (zq zL (.cond (zq zL zL) zL)) (zq zL zL))))
def s100_0 : Shape:=[zI,zN,zN,zT,zN,zN,zN,zN,zN,zN,zN,zN,zN,zN,zN,zN,zN,zN,zN,zN]
def e100_0 : List (Nat × Shape):=[(2,[zN,zN,zN,zT,zN,zN,zN,zN,zN,zN,zN,zN,zN,zN,zN,zN,zN,zN,zN,zN])]
def a100_0 : Ann:=(zq (zq zL (.cond zL zL)) (.block (zq zL zL)))
def a100 : Ann:=(zq zL (zq (zq zL (.cond (zq zL zL) zL)) (zq zL (zq (.block (.loop s100_0 e100_0 a100_0)) (zq zL zL)))))
def a104 : Ann:=(zq zL (zq zL zL))
def a112 : Ann:=(zq zL (zq zL (zq (zq zL (.cond (zq zL zL) zL)) (zq zL zL))))
def a113 : Ann:=(zq zL (zq zL (zq (zq zL (.cond (zq zL zL) zL)) (zq zL (zq (zq zL (.cond (zq zL zL) zL)) (zq zL (zq (zq zL (.cond (zq zL zL) zL)) (zq zL zL))))))))
def a114 : Ann:=(zq zL (zq zL (zq (zq zL (.cond (zq zL zL) zL)) (zq zL zL))))
def a115 : Ann:=(zq zL (zq zL zL))
def s116_0 : Shape:=[zN,zA,zA,zA,zI,zN,zN,zN,zN,zN,zN,zN,zN,zN,zN,zN,zN,zN,zN,zN,zN,zN,zN,zN,zN,zN,zN]
def e116_0 : List (Nat × Shape):=[(2,[zN,zN,zA,zA,zN,zN,zN,zN,zN,zN,zN,zN,zN,zN,zN,zN,zN,zN,zN,zN,zN,zN,zN,zN,zN,zN,zN])]
def a116_0 : Ann:=(zq (zq zL (.cond zL zL)) (zq (.block zL) zL))
def a116 : Ann:=(zq zL (zq zL (zq zL (zq (zq zL (.block (.loop s116_0 e116_0 a116_0))) (zq zL zL)))))
def s117_0 : Shape:=[zN,zI,zI,zA,zN,zN,zN,zI,zN,zN,zN,zN,zN,zN,zN,zN,zN,zN,zN,zN,zN,zN,zN,zN,zN,zN,zN,zN,zN,zN,zN,zN,zN,zN,zN,zN,zN,zN,zN,zN,zN,zN]
def e117_0 : List (Nat × Shape):=[(2,[zN,zN,zI,zN,zN,zN,zN,zN,zN,zN,zN,zN,zN,zN,zN,zN,zN,zN,zN,zN,zN,zN,zN,zN,zN,zN,zN,zN,zN,zN,zN,zN,zN,zN,zN,zN,zN,zN,zN,zN,zN,zN])]
def a117_0 : Ann:=(zq (.seq (some [zN,zI,zI,zA,zN,zN,zN,zI,zN,zN,zN,zN,zN,zN,zN,zN,zN,zN,zN,zN,zN,zN,zN,zN,zN,zN,zN,zN,zN,zB,zN,zN,zN,zN,zN,zN,zN,zN,zN,zN,zN,zN]) zL (.cond zL zL)) (zq (.block zL) zL))
def a117 : Ann:=(zq zL (zq (.seq (some [zN,zI,zI,zA,zN,zN,zN,zN,zN,zN,zN,zN,zN,zN,zN,zN,zN,zN,zB,zN,zN,zN,zN,zN,zN,zN,zN,zN,zN,zN,zN,zN,zN,zN,zN,zN,zN,zN,zN,zN,zN,zN]) zL (.cond (zq zL zL) zL)) (zq zL (zq (zq zL (.block (.loop s117_0 e117_0 a117_0))) (zq zL zL)))))
def s118_0 : Shape:=[zN,zI,zA,zN,zN,zI,zN,zN,zN,zN,zN,zN,zN,zN,zN,zN,zN,zN,zN,zN,zN,zN]
def e118_0 : List (Nat × Shape):=[(1,[zN,zN,zN,zN,zI,zN,zN,zN,zN,zN,zN,zN,zN,zN,zN,zN,zN,zN,zN,zN,zN,zN]),(2,[zN,zN,zN,zN,zN,zN,zN,zN,zN,zN,zN,zN,zN,zN,zN,zN,zN,zN,zN,zN,zN,zN])]
def a118_0 : Ann:=(zq (zq zL (.cond zL zL)) (zq (.block (zq zL (.cond (zq zL zL) zL))) zL))
def a118 : Ann:=(zq zL (zq (zq zL (.block (.loop s118_0 e118_0 a118_0))) (zq zL zL)))
def a119 : Ann:=(zq zL (zq zL (zq zL (zq zL (zq zL (zq zL (zq zL (zq zL (zq zL zL)))))))))
def a120 : Ann:=(zq zL (zq zL (zq zL (zq zL (zq zL (zq zL (zq zL (zq zL zL))))))))
def a121 : Ann:=(zq zL (zq zL (zq zL (zq zL (zq zL (zq zL zL))))))
def s122_0 : Shape:=[zN,zN,zN,zS,zN,zN,zS,zI,zI,zN,zN,zN,zN,zN,zN,zN,zN,zN,zN,zN,zN,zN]
def e122_0 : List (Nat × Shape):=[(2,[zN,zN,zN,zS,zN,zN,zN,zN,zN,zN,zN,zN,zN,zN,zN,zN,zN,zN,zN,zN,zN,zN])]
def a122_0 : Ann:=(zq zL (zq (.cond zL zL) (zq (.block (zq zL (zq zL zL))) zL)))
def a122 : Ann:=(zq zL (zq zL (zq (zq zL (.block (.loop s122_0 e122_0 a122_0))) (zq zL zL))))
def a123 : Ann:=(zq zL (zq zL (zq zL zL)))
def s124_0 : Shape:=[zN,zI,zI,zN,zN,zN,zN,zN,zN,zN,zN,zN,zN,zN,zN,zN,zN,zN,zN,zN,zN,zN,zN,zN,zN,zN,zN,zS,zI,zI,zN,zN,zN,zN,zN,zN,zN,zN,zN,zN,zN,zN,zN,zN,zN,zN,zN]
def e124_0 : List (Nat × Shape):=[(1,[zN,zN,zN,zN,zN,zN,zI,zB,zN,zN,zN,zN,zN,zN,zN,zN,zN,zN,zN,zN,zN,zN,zN,zN,zN,zN,zN,zN,zN,zN,zN,zN,zN,zN,zN,zN,zN,zN,zN,zN,zN,zN,zN,zN,zN,zN,zN]),(2,[zN,zN,zI,zN,zN,zN,zN,zN,zN,zN,zN,zN,zN,zN,zN,zN,zN,zN,zN,zN,zN,zN,zN,zN,zN,zN,zN,zN,zN,zN,zN,zN,zN,zN,zN,zN,zN,zN,zN,zN,zN,zN,zN,zN,zN,zN,zN])]
def a124_0 : Ann:=(zq zL (zq (.cond zL zL) (zq (.block (zq zL (zq zL (zq (zq zL (.cond (zq zL zL) zL)) zL)))) zL)))
def a124 : Ann:=(zq zL (zq zL (zq (.seq (some [zN,zI,zI,zA,zN,zN,zN,zN,zN,zN,zN,zN,zN,zN,zN,zN,zN,zN,zN,zN,zN,zN,zN,zN,zB,zN,zN,zN,zN,zN,zN,zN,zN,zN,zN,zN,zN,zN,zN,zN,zN,zN,zN,zN,zN,zN,zN]) zL (.cond (zq zL zL) zL)) (zq (zq zL (.block (.loop s124_0 e124_0 a124_0))) (zq zL zL)))))
def a125 : Ann:=(zq zL (zq zL (zq zL zL)))
def a126 : Ann:=(zq zL (zq (zq zL (.cond (zq zL zL) zL)) (zq (zq zL (.cond (zq zL zL) zL)) (zq (zq zL (.cond (zq zL zL) zL)) (zq (zq zL (.cond (zq zL zL) zL)) (zq (zq zL (.cond (zq zL zL) zL)) (zq (zq zL (.cond (zq zL zL) zL)) (zq zL zL))))))))
def a127 : Ann:=(zq zL (zq (zq zL (.cond (zq zL zL) zL)) (zq (zq zL (.cond (zq zL zL) zL)) (zq (zq zL (.cond (zq zL zL) zL)) (zq (zq zL (.cond (zq zL zL) zL)) (zq (zq zL (.cond (zq zL zL) zL)) (zq zL zL)))))))
def a128 : Ann:=(zq zL (zq (zq zL (.cond (zq zL zL) zL)) (zq (zq zL (.cond (zq zL zL) zL)) (zq (zq zL (.cond (zq zL zL) zL)) (zq zL zL)))))
def s129_0 : Shape:=[zS,zI,zN,zN,zN,zI,zN,zN,zN,zN,zN,zN,zN,zN,zN,zN,zN,zN,zN,zN,zN,zN,zN,zN,zN,zN,zN,zN,zN,zN,zN,zN,zN,zN,zN,zN,zN,zN,zN,zN,zN,zN,zN,zN,zN,zN,zN,zN,zN,zN]
def e129_0 : List (Nat × Shape):=[(1,[zN,zN,zN,zN,zI,zN,zN,zN,zN,zN,zN,zN,zN,zN,zN,zN,zN,zN,zN,zN,zN,zN,zN,zN,zN,zN,zN,zN,zN,zN,zN,zN,zN,zN,zN,zN,zN,zN,zN,zN,zN,zN,zN,zN,zN,zN,zN,zN,zN,zN]),(2,[zN,zI,zN,zN,zN,zN,zN,zN,zN,zN,zN,zN,zN,zN,zN,zN,zN,zN,zN,zN,zN,zN,zN,zN,zN,zN,zN,zN,zN,zN,zN,zN,zN,zN,zN,zN,zN,zN,zN,zN,zN,zN,zN,zN,zN,zN,zN,zN,zN,zN])]
def a129_0 : Ann:=(zq (zq zL (.cond zL zL)) (zq (.block (zq (zq zL (.cond (zq zL zL) zL)) (zq zL (zq (zq zL (.cond (zq zL zL) zL)) (zq zL (zq (zq zL (.cond (zq zL zL) zL)) (zq zL (zq zL (zq zL (.cond (zq zL zL) zL)))))))))) zL))
def a129 : Ann:=(zq zL (zq (zq zL (.block (.loop s129_0 e129_0 a129_0))) (zq zL zL)))
def a139 : Ann:=(zq zL (zq (.seq (some [zN,zI,zA,zN,zN,zN,zN,zN,zN,zN,zN,zN,zN,zN,zN,zN,zN,zN,zN,zN,zN,zN,zN,zN,zN,zN,zN,zN,zN,zN,zB,zN,zN,zN,zN,zN,zN,zN,zN,zN,zN,zN,zN,zN,zN,zN,zN,zN,zN,zN,zN,zN,zN,zN,zN,zN,zN,zN,zN,zN,zN,zN,zN,zN,zN,zN,zN,zN,zN,zN,zN,zN,zN,zN,zN,zN,zN,zN,zN,zN,zN,zN]) zL (.cond (zq zL zL) zL)) (zq (zq zL (.block (zq zL (.cond (zq zL zL) (zq zL (.cond (zq zL zL) (zq zL (.cond (zq zL zL) (zq zL (.cond (zq zL zL) (zq zL (.cond (zq zL zL) (.seq (some [zN,zI,zA,zN,zN,zN,zN,zN,zN,zN,zN,zN,zN,zN,zN,zN,zN,zN,zN,zN,zN,zN,zN,zN,zN,zN,zN,zN,zN,zN,zN,zN,zN,zN,zN,zN,zN,zN,zN,zN,zN,zN,zN,zN,zN,zN,zN,zN,zN,zN,zN,zN,zN,zN,zN,zN,zN,zN,zN,zN,zN,zN,zN,zN,zN,zN,zN,zN,zN,zN,zN,zN,zN,zB,zN,zN,zN,zN,zN,zN,zN,zN]) (zq zL (.cond zL (zq zL (.cond zL zL)))) (.cond (zq zL zL) zL)))))))))))))) (zq zL zL))))
def a140 : Ann:=(zq zL (zq (.seq (some [zN,zI,zA,zN,zN,zN,zN,zN,zN,zN,zN,zN,zN,zN,zB,zN,zN,zN,zN,zN,zN,zN,zN,zN,zN,zN,zN,zN,zN,zN,zN,zN,zN,zN,zN,zN,zN,zN,zN,zN,zN,zN,zN,zN,zN,zN,zN,zN,zN,zN,zN,zN,zN,zN,zN,zN,zN,zN,zN,zN,zN,zN,zN,zN,zN,zN,zN,zN,zN,zN,zN,zN,zN,zN,zN,zN,zN,zN]) zL (.cond (zq zL zL) zL)) (zq zL (zq (.seq (some [zN,zI,zA,zN,zN,zN,zN,zN,zN,zN,zN,zN,zN,zN,zN,zN,zN,zN,zN,zN,zN,zN,zN,zN,zN,zN,zN,zN,zN,zN,zN,zN,zN,zN,zN,zN,zN,zN,zN,zN,zN,zN,zN,zN,zN,zN,zN,zN,zN,zN,zN,zN,zN,zN,zN,zB,zN,zN,zN,zN,zN,zN,zN,zN,zN,zN,zN,zN,zN,zN,zN,zN,zN,zN,zN,zN,zN,zN]) zL (.cond (zq zL zL) zL)) (zq (.seq (some [zN,zI,zA,zN,zN,zN,zN,zN,zN,zN,zN,zN,zN,zN,zN,zN,zN,zN,zN,zN,zN,zN,zN,zN,zN,zN,zN,zN,zN,zN,zN,zN,zN,zN,zN,zN,zN,zN,zN,zN,zN,zN,zN,zN,zN,zN,zN,zN,zN,zN,zN,zN,zN,zN,zN,zN,zN,zN,zN,zN,zN,zN,zN,zN,zN,zN,zN,zN,zN,zN,zN,zN,zN,zN,zB,zN,zN,zN]) zL (.cond (zq zL zL) zL)) (zq zL zL))))))
def s141_0 : Shape:=[zS,zN,zN,zI,zN,zN,zN,zN,zN,zN,zN,zN,zN,zN,zN,zN]
def e141_0 : List (Nat × Shape):=[(1,[zN,zN,zB,zN,zN,zN,zN,zN,zN,zN,zN,zN,zN,zN,zN,zN]),(2,[zN,zN,zN,zN,zN,zN,zN,zN,zN,zN,zN,zN,zN,zN,zN,zN])]
def a141_0 : Ann:=(zq (zq zL (.cond zL zL)) (zq (.block (zq zL (.cond (zq zL zL) zL))) zL))
def a141 : Ann:=(zq zL (zq (zq zL (.block (.loop s141_0 e141_0 a141_0))) (zq zL zL)))
def s142_0 : Shape:=[zS,zI,zN,zN,zN,zI,zN,zN,zN,zN,zN,zN,zN,zN,zN,zN,zN,zN,zN,zN,zN,zN,zN,zN,zN,zN,zN,zN,zN,zN,zN,zN,zN,zN,zN,zN,zN,zN,zN,zN,zN,zN,zN,zN,zN]
def e142_0 : List (Nat × Shape):=[(1,[zN,zN,zN,zN,zB,zN,zN,zN,zN,zN,zN,zN,zN,zN,zN,zN,zN,zN,zN,zN,zN,zN,zN,zN,zN,zN,zN,zN,zN,zN,zN,zN,zN,zN,zN,zN,zN,zN,zN,zN,zN,zN,zN,zN,zN]),(2,[zS,zN,zN,zN,zN,zN,zN,zN,zN,zN,zN,zN,zN,zN,zN,zN,zN,zN,zN,zN,zN,zN,zN,zN,zN,zN,zN,zN,zN,zN,zN,zN,zN,zN,zN,zN,zN,zN,zN,zN,zN,zN,zN,zN,zN])]
def a142_0 : Ann:=(zq (zq zL (.cond zL zL)) (zq (.block (.seq (some [zS,zI,zN,zN,zN,zI,zN,zN,zN,zN,zN,zN,zN,zN,zN,zN,zN,zN,zN,zN,zN,zN,zN,zN,zN,zN,zN,zN,zN,zN,zN,zN,zN,zN,zN,zN,zN,zN,zN,zN,zN,zB,zN,zN,zN]) zL (.cond (zq zL zL) zL))) zL))
def a142 : Ann:=(zq zL (zq (zq zL (.block (.loop s142_0 e142_0 a142_0))) (zq zL zL)))
def s143_0 : Shape:=[zS,zI,zN,zN,zN,zI,zN,zN,zN,zN,zN,zN,zN,zN,zN,zN,zN,zN]
def e143_0 : List (Nat × Shape):=[(1,[zN,zN,zN,zN,zB,zN,zN,zN,zN,zN,zN,zN,zN,zN,zN,zN,zN,zN]),(2,[zN,zN,zN,zN,zN,zN,zN,zN,zN,zN,zN,zN,zN,zN,zN,zN,zN,zN])]
def a143_0 : Ann:=(zq (zq zL (.cond zL zL)) (zq (.block (zq zL (.cond (zq zL zL) zL))) zL))
def a143 : Ann:=(zq zL (zq (zq zL (.block (.loop s143_0 e143_0 a143_0))) (zq zL zL)))
def s158_0 : Shape:=[zT,zN,zN,zI,zN,zN,zN,zN,zN,zN,zN,zN,zN,zN,zN,zN,zN,zN,zN,zN,zN,zN,zN,zN,zN,zN,zN,zN,zN]
def e158_0 : List (Nat × Shape):=[(1,[zN,zN,zB,zN,zN,zN,zN,zN,zN,zN,zN,zN,zN,zN,zN,zN,zN,zN,zN,zN,zN,zN,zN,zN,zN,zN,zN,zN,zN]),(2,[zT,zN,zN,zN,zN,zN,zN,zN,zN,zN,zN,zN,zN,zN,zN,zN,zN,zN,zN,zN,zN,zN,zN,zN,zN,zN,zN,zN,zN])]
def a158_0 : Ann:=(zq (zq zL (.cond zL zL)) (zq (.block (.seq (some [zT,zN,zN,zI,zN,zN,zN,zN,zN,zN,zN,zN,zN,zN,zN,zN,zN,zN,zN,zN,zN,zN,zN,zN,zN,zB,zN,zN,zN]) zL (.cond (zq zL zL) zL))) zL))
def a158 : Ann:=(zq zL (zq (zq zL (.block (.loop s158_0 e158_0 a158_0))) (zq zL zL)))
def s163_0 : Shape:=[zS,zN,zN,zS,zI,zN,zN,zN,zN,zN,zN,zN,zN,zN,zN,zN,zN,zN,zN,zN,zN]
def e163_0 : List (Nat × Shape):=[(2,[zN,zN,zN,zS,zN,zN,zN,zN,zN,zN,zN,zN,zN,zN,zN,zN,zN,zN,zN,zN,zN])]
def a163_0 : Ann:=(zq (zq zL (.cond zL zL)) (zq (.block zL) zL))
def a163 : Ann:=(zq zL (zq zL (zq (zq zL (.block (.loop s163_0 e163_0 a163_0))) (zq zL zL))))
def a164 : Ann:=(zq zL (zq zL (zq (zq zL (.block (zq zL (.cond (zq zL zL) (zq zL (.cond (zq zL zL) (zq zL (.cond (zq zL zL) (zq zL (.cond (zq zL zL) (zq zL (.cond (zq zL zL) (zq zL (.cond (zq zL zL) zL)))))))))))))) (zq zL zL))))
def s165_0 : Shape:=[zN,zN,zN,zS,zN,zN,zS,zI,zI,zN,zN,zN,zN,zN,zN,zN,zN,zN,zN]
def e165_0 : List (Nat × Shape):=[(2,[zN,zN,zN,zS,zN,zN,zN,zN,zN,zN,zN,zN,zN,zN,zN,zN,zN,zN,zN])]
def a165_0 : Ann:=(zq zL (zq (.cond zL zL) (zq (.block (zq zL zL)) zL)))
def a165 : Ann:=(zq zL (zq zL (zq (zq zL (.block (.loop s165_0 e165_0 a165_0))) (zq zL zL))))
def a166 : Ann:=(zq zL (zq (zq zL (.block (zq zL (.cond (zq zL zL) (zq zL (.cond (zq zL zL) (zq zL (.cond (zq zL zL) (zq zL (.cond (zq zL zL) (zq zL (.cond (zq zL zL) (zq zL (.cond (zq zL zL) zL)))))))))))))) (zq zL zL)))
def a179 : Ann:=(zq zL (zq zL (zq zL (zq zL zL))))
def a180 : Ann:=(zq zL (zq zL zL))
def a181 : Ann:=(zq zL (zq zL zL))
def a182 : Ann:=(zq zL (zq (zq zL (.cond (zq zL zL) zL)) (zq zL zL)))
def s183_0 : Shape:=[zT,zN,zN,zI,zN,zN,zN,zN,zN,zN,zN,zN,zN,zN,zN,zN,zN,zN,zN,zN,zN,zN,zN,zN,zN,zN,zN,zN,zN,zN,zN,zN,zN]
def e183_0 : List (Nat × Shape):=[(1,[zN,zN,zB,zN,zN,zN,zN,zN,zN,zN,zN,zN,zN,zN,zN,zN,zN,zN,zN,zN,zN,zN,zN,zN,zN,zN,zN,zN,zN,zN,zN,zN,zN]),(2,[zT,zN,zN,zN,zN,zN,zN,zN,zN,zN,zN,zN,zN,zN,zN,zN,zN,zN,zN,zN,zN,zN,zN,zN,zN,zN,zN,zN,zN,zN,zN,zN,zN])]
def a183_0 : Ann:=(zq (zq zL (.cond zL zL)) (zq (.block (zq zL (.seq (some [zT,zN,zN,zI,zN,zN,zN,zN,zN,zN,zN,zN,zN,zN,zN,zN,zN,zN,zN,zN,zN,zN,zN,zN,zN,zN,zN,zN,zN,zB,zN,zN,zN]) zL (.cond (zq zL zL) zL)))) zL))
def a183 : Ann:=(zq zL (zq (zq zL (.block (.loop s183_0 e183_0 a183_0))) (zq zL zL)))
def a184 : Ann:=(zq zL (zq (zq zL (.block (zq zL (.cond (zq zL zL) (zq zL (.cond (zq zL zL) (zq zL (.cond (zq zL zL) (.seq (some [zN,zI,zA,zN,zN,zN,zN,zN,zN,zN,zN,zN,zN,zN,zN,zN,zN,zN,zN,zN,zN,zN,zN,zN,zN,zN,zN,zN,zN,zN,zB,zN,zN,zN,zN,zN,zN,zN,zN,zN,zN,zN,zN,zN,zN,zN,zN]) (zq zL (.cond zL (zq zL (.cond zL (zq zL (.cond zL zL)))))) (.cond (zq zL zL) zL)))))))))) (zq zL zL)))
def a194 : Ann:=(zq zL (zq zL zL))
def a195 : Ann:=(zq zL (zq zL zL))
def s204_0 : Shape:=[zT,some (false,[(.int .u8)]),zN,zN,zN,zI,zN,zN,zN,zN,zN,zN,zN,zN,zN,zN,zN]
def e204_0 : List (Nat × Shape):=[(1,[zN,zN,zN,zN,zB,zN,zN,zN,zN,zN,zN,zN,zN,zN,zN,zN,zN]),(2,[zN,zN,zN,zN,zN,zN,zN,zN,zN,zN,zN,zN,zN,zN,zN,zN,zN])]
def a204_0 : Ann:=(zq (zq zL (.cond zL zL)) (zq (.block (zq zL (.cond (zq zL zL) zL))) zL))
def a204 : Ann:=(zq zL (zq (zq zL (.block (.loop s204_0 e204_0 a204_0))) (zq zL zL)))
def a211 : Ann:=(zq zL (zq (zq zL (.block (zq zL (.cond (zq zL zL) (zq zL (.cond (zq zL zL) (.seq (some [zN,zN,zN,zI,zN,zN,zN,zN,zB,zN,zN,zN,zN,zN,zN,zN,zN,zN,zN,zN,zN,zN,zN,zN,zN,zN,zN,zN,zN,zN,zN]) (zq zL (.cond zL (zq zL (.cond zL (zq zL (.cond zL zL)))))) (.cond (zq zL zL) (.seq (some [zN,zN,zN,zI,zN,zN,zN,zN,zN,zN,zN,zN,zN,zB,zN,zN,zN,zN,zN,zN,zN,zN,zN,zN,zN,zN,zN,zN,zN,zN,zN]) (zq zL (.cond zL (zq zL (.cond zL (zq zL (.cond zL (zq zL (.cond zL zL)))))))) (.cond (zq zL zL) (.seq (some [zN,zN,zN,zI,zN,zN,zN,zN,zN,zN,zN,zN,zN,zN,zN,zN,zN,zN,zN,zB,zN,zN,zN,zN,zN,zN,zN,zN,zN,zN,zN]) (zq zL (.cond zL zL)) (.cond (zq zL zL) (zq zL (.cond (zq zL zL) (.seq (some [zN,zN,zN,zN,zN,zN,zN,zN,zN,zN,zN,zN,zN,zN,zN,zN,zN,zN,zN,zN,zN,zN,zN,zN,zB,zN,zN,zN,zN,zN,zN]) (zq zL (.cond zL (zq zL (.cond zL (zq zL (.cond zL (zq zL (.cond zL (zq zL (.cond zL zL)))))))))) (.cond (zq zL zL) zL)))))))))))))))) (zq zL zL)))
def a212 : Ann:=(zq zL (zq zL zL))
def a213 : Ann:=(zq zL (zq zL zL))
def a229 : Ann:=(zq zL (zq zL zL))
def anns : List (Nat × Ann):=[(3,a3),(11,a11),(12,a12),(13,a13),(14,a14),(15,a15),(16,a16),(17,a17),(18,a18),(19,a19),(20,a20),(21,a21),(25,a25),(26,a26),(27,a27),(33,a33),(37,a37),(42,a42),(44,a44),(53,a53),(54,a54),(55,a55),(56,a56),(57,a57),(58,a58),(59,a59),(60,a60),(61,a61),(62,a62),(63,a63),(64,a64),(65,a65),(66,a66),(67,a67),(68,a68),(69,a69),(70,a70),(71,a71),(72,a72),(73,a73),(74,a74),(75,a75),(76,a76),(77,a77),(82,a82),(83,a83),(84,a84),(85,a85),(86,a86),(87,a87),(88,a88),(89,a89),(90,a90),(91,a91),(92,a92),(93,a93),(94,a94),(100,a100),(104,a104),(112,a112),(113,a113),(114,a114),(115,a115),(116,a116),(117,a117),(118,a118),(119,a119),(120,a120),(121,a121),(122,a122),(123,a123),(124,a124),(125,a125),(126,a126),(127,a127),(128,a128),(129,a129),(139,a139),(140,a140),(141,a141),(142,a142),(143,a143),(158,a158),(163,a163),(164,a164),(165,a165),(166,a166),(179,a179),(180,a180),(181,a181),(182,a182),(183,a183),(184,a184),(194,a194),(195,a195),(204,a204),(211,a211),(212,a212),(213,a213),(229,a229)]
theorem ix238 (s : ByteArray) (n : Int) (w : World) : (callFunc 238 #[.string s,.int .u8 n]).run Try.prog w = .ok (.value (.int .i64 (firstIdx s n.toNat.toUInt8))) w:=by
 rw [run_callFunc_extern (e:=Extern.BytealgIndexByte.indexByte) Try.func238 (by kernel_rfl) (by kernel_rfl) (by kernel_rfl) (by kernel_rfl),run_indexByte_string]
 rfl
theorem ixOk : ∀ f,memN f [238] = true→∀ (s : ByteArray) (n : Int) (w : World),(callFunc f #[.string s,.int .u8 n]).run Try.prog w = .ok (.value (.int .i64 (firstIdx s n.toNat.toUInt8))) w:=by
 intro f hf s n w
 rcases (Bool.or_eq_true _ _).mp hf with h|hf
 ·cases Nat.eq_of_beq_eq_true h; exact ix238 s n w
 cases hf
noncomputable def Et (base : Nat) : Env:=⟨Try.prog,tab,fns,anns,base,[238],[(4,[(false,[.bool])])]⟩
theorem EtOk (base : Nat) : EnvOk (Et base):=⟨fun t i h=>tabOk (t,i) (find_mem h),by kernel_rfl,by kernel_rfl,fun f rs h=>fnsOk (f,rs) (find_mem h),ixOk⟩
theorem EtP (base : Nat) : (Et base).P = Try.prog:=by kernel_rfl
theorem EtA (base f : Nat) : (Et base).an f = find anns f:=by kernel_rfl
theorem EtB (base : Nat) : (Et base).base = base:=by kernel_rfl
theorem run_i {base f : Nat} {fn : Func} {an : Ann} (hf : Try.prog.funcs[f]? = some fn) (ha : find anns f = some an) {args : List Value} {h : AH} {r : Value × AH} (hx : exFun (Et base) (run (Et base)) loopL an fn args h = some r) : run (Et base) f args h = some r:=run_intro (E:=Et base) (by rw [EtP]; exact hf) (by rw [EtA]; exact ha) hx
abbrev c_IIIIIT {R : Type} (h : AH) (b o : Nat) (f : Int→Int→Int→Int→Int→ByteArray→Option R) : Option R:=gI (cell h b o) fun x0=>gI (cell h b (o + 1)) fun x1=>gI (cell h b ((o + 1) + 1)) fun x2=>gI (cell h b (((o + 1) + 1) + 1)) fun x3=>gI (cell h b ((((o + 1) + 1) + 1) + 1)) fun x4=>gT (cell h b (((((o + 1) + 1) + 1) + 1) + 1)) fun x5=>f x0 x1 x2 x3 x4 x5
abbrev c_IIIITL {R : Type} (h : AH) (b o : Nat) (f : Int→Int→Int→Int→ByteArray→Option Addr × Nat→Option R) : Option R:=gI (cell h b o) fun x0=>gI (cell h b (o + 1)) fun x1=>gI (cell h b ((o + 1) + 1)) fun x2=>gI (cell h b (((o + 1) + 1) + 1)) fun x3=>gT (cell h b ((((o + 1) + 1) + 1) + 1)) fun x4=>gL (cell h b (((((o + 1) + 1) + 1) + 1) + 1)) fun x5=>f x0 x1 x2 x3 x4 x5
abbrev c_IIL {R : Type} (h : AH) (b o : Nat) (f : Int→Int→Option Addr × Nat→Option R) : Option R:=gI (cell h b o) fun x0=>gI (cell h b (o + 1)) fun x1=>gL (cell h b ((o + 1) + 1)) fun x2=>f x0 x1 x2
abbrev c_IILLL {R : Type} (h : AH) (b o : Nat) (f : Int→Int→Option Addr × Nat→Option Addr × Nat→Option Addr × Nat→Option R) : Option R:=gI (cell h b o) fun x0=>gI (cell h b (o + 1)) fun x1=>gL (cell h b ((o + 1) + 1)) fun x2=>gL (cell h b (((o + 1) + 1) + 1)) fun x3=>gL (cell h b ((((o + 1) + 1) + 1) + 1)) fun x4=>f x0 x1 x2 x3 x4
abbrev c_IITL {R : Type} (h : AH) (b o : Nat) (f : Int→Int→ByteArray→Option Addr × Nat→Option R) : Option R:=gI (cell h b o) fun x0=>gI (cell h b (o + 1)) fun x1=>gT (cell h b ((o + 1) + 1)) fun x2=>gL (cell h b (((o + 1) + 1) + 1)) fun x3=>f x0 x1 x2 x3
abbrev c_LLIL {R : Type} (h : AH) (b o : Nat) (f : Option Addr × Nat→Option Addr × Nat→Int→Option Addr × Nat→Option R) : Option R:=gL (cell h b o) fun x0=>gL (cell h b (o + 1)) fun x1=>gI (cell h b ((o + 1) + 1)) fun x2=>gL (cell h b (((o + 1) + 1) + 1)) fun x3=>f x0 x1 x2 x3
abbrev j_AA {R : Type} (l : Slots) (f : Addr→Addr→Option R) : Option R:=gA (sget l 0) fun x0=>gA (sget (l.tail) 0) fun x1=>f x0 x1
abbrev j_AAA {R : Type} (l : Slots) (f : Addr→Addr→Addr→Option R) : Option R:=gA (sget l 0) fun x0=>gA (sget (l.tail) 0) fun x1=>gA (sget (l.tail.tail) 0) fun x2=>f x0 x1 x2
abbrev j_AAAB {R : Type} (l : Slots) (f : Addr→Addr→Addr→Bool→Option R) : Option R:=gA (sget l 0) fun x0=>gA (sget (l.tail) 0) fun x1=>gA (sget (l.tail.tail) 0) fun x2=>gB (sget (l.tail.tail.tail) 0) fun x3=>f x0 x1 x2 x3
abbrev j_AAIB {R : Type} (l : Slots) (f : Addr→Addr→Int→Bool→Option R) : Option R:=gA (sget l 0) fun x0=>gA (sget (l.tail) 0) fun x1=>gI (sget (l.tail.tail) 0) fun x2=>gB (sget (l.tail.tail.tail) 0) fun x3=>f x0 x1 x2 x3
abbrev j_AALIIB {R : Type} (l : Slots) (f : Addr→Addr→Option Addr × Nat→Int→Int→Bool→Option R) : Option R:=gA (sget l 0) fun x0=>gA (sget (l.tail) 0) fun x1=>gL (sget (l.tail.tail) 0) fun x2=>gI (sget (l.tail.tail.tail) 0) fun x3=>gI (sget (l.tail.tail.tail.tail) 0) fun x4=>gB (sget (l.tail.tail.tail.tail.tail) 0) fun x5=>f x0 x1 x2 x3 x4 x5
abbrev j_AALIILIIB {R : Type} (l : Slots) (f : Addr→Addr→Option Addr × Nat→Int→Int→Option Addr × Nat→Int→Int→Bool→Option R) : Option R:=gA (sget l 0) fun x0=>gA (sget (l.tail) 0) fun x1=>gL (sget (l.tail.tail) 0) fun x2=>gI (sget (l.tail.tail.tail) 0) fun x3=>gI (sget (l.tail.tail.tail.tail) 0) fun x4=>gL (sget (l.tail.tail.tail.tail.tail) 0) fun x5=>gI (sget (l.tail.tail.tail.tail.tail.tail) 0) fun x6=>gI (sget (l.tail.tail.tail.tail.tail.tail.tail) 0) fun x7=>gB (sget (l.tail.tail.tail.tail.tail.tail.tail.tail) 0) fun x8=>f x0 x1 x2 x3 x4 x5 x6 x7 x8
abbrev j_AB {R : Type} (l : Slots) (f : Addr→Bool→Option R) : Option R:=gA (sget l 0) fun x0=>gB (sget (l.tail) 0) fun x1=>f x0 x1
abbrev j_AIB {R : Type} (l : Slots) (f : Addr→Int→Bool→Option R) : Option R:=gA (sget l 0) fun x0=>gI (sget (l.tail) 0) fun x1=>gB (sget (l.tail.tail) 0) fun x2=>f x0 x1 x2
abbrev j_ALII {R : Type} (l : Slots) (f : Addr→Option Addr × Nat→Int→Int→Option R) : Option R:=gA (sget l 0) fun x0=>gL (sget (l.tail) 0) fun x1=>gI (sget (l.tail.tail) 0) fun x2=>gI (sget (l.tail.tail.tail) 0) fun x3=>f x0 x1 x2 x3
abbrev j_IAAAB {R : Type} (l : Slots) (f : Int→Addr→Addr→Addr→Bool→Option R) : Option R:=gI (sget l 0) fun x0=>gA (sget (l.tail) 0) fun x1=>gA (sget (l.tail.tail) 0) fun x2=>gA (sget (l.tail.tail.tail) 0) fun x3=>gB (sget (l.tail.tail.tail.tail) 0) fun x4=>f x0 x1 x2 x3 x4
abbrev j_IAAABAAABB {R : Type} (l : Slots) (f : Int→Addr→Addr→Addr→Bool→Addr→Addr→Addr→Bool→Bool→Option R) : Option R:=gI (sget l 0) fun x0=>gA (sget (l.tail) 0) fun x1=>gA (sget (l.tail.tail) 0) fun x2=>gA (sget (l.tail.tail.tail) 0) fun x3=>gB (sget (l.tail.tail.tail.tail) 0) fun x4=>gA (sget (l.tail.tail.tail.tail.tail) 0) fun x5=>gA (sget (l.tail.tail.tail.tail.tail.tail) 0) fun x6=>gA (sget (l.tail.tail.tail.tail.tail.tail.tail) 0) fun x7=>gB (sget (l.tail.tail.tail.tail.tail.tail.tail.tail) 0) fun x8=>gB (sget (l.tail.tail.tail.tail.tail.tail.tail.tail.tail) 0) fun x9=>f x0 x1 x2 x3 x4 x5 x6 x7 x8 x9
abbrev j_IAAABAB {R : Type} (l : Slots) (f : Int→Addr→Addr→Addr→Bool→Addr→Bool→Option R) : Option R:=gI (sget l 0) fun x0=>gA (sget (l.tail) 0) fun x1=>gA (sget (l.tail.tail) 0) fun x2=>gA (sget (l.tail.tail.tail) 0) fun x3=>gB (sget (l.tail.tail.tail.tail) 0) fun x4=>gA (sget (l.tail.tail.tail.tail.tail) 0) fun x5=>gB (sget (l.tail.tail.tail.tail.tail.tail) 0) fun x6=>f x0 x1 x2 x3 x4 x5 x6
abbrev j_IAB {R : Type} (l : Slots) (f : Int→Addr→Bool→Option R) : Option R:=gI (sget l 0) fun x0=>gA (sget (l.tail) 0) fun x1=>gB (sget (l.tail.tail) 0) fun x2=>f x0 x1 x2
abbrev j_IB {R : Type} (l : Slots) (f : Int→Bool→Option R) : Option R:=gI (sget l 0) fun x0=>gB (sget (l.tail) 0) fun x1=>f x0 x1
abbrev j_IIAB {R : Type} (l : Slots) (f : Int→Int→Addr→Bool→Option R) : Option R:=gI (sget l 0) fun x0=>gI (sget (l.tail) 0) fun x1=>gA (sget (l.tail.tail) 0) fun x2=>gB (sget (l.tail.tail.tail) 0) fun x3=>f x0 x1 x2 x3
abbrev j_IIAIB {R : Type} (l : Slots) (f : Int→Int→Addr→Int→Bool→Option R) : Option R:=gI (sget l 0) fun x0=>gI (sget (l.tail) 0) fun x1=>gA (sget (l.tail.tail) 0) fun x2=>gI (sget (l.tail.tail.tail) 0) fun x3=>gB (sget (l.tail.tail.tail.tail) 0) fun x4=>f x0 x1 x2 x3 x4
abbrev j_LIB {R : Type} (l : Slots) (f : Option Addr × Nat→Int→Bool→Option R) : Option R:=gL (sget l 0) fun x0=>gI (sget (l.tail) 0) fun x1=>gB (sget (l.tail.tail) 0) fun x2=>f x0 x1 x2
abbrev j_LIIB {R : Type} (l : Slots) (f : Option Addr × Nat→Int→Int→Bool→Option R) : Option R:=gL (sget l 0) fun x0=>gI (sget (l.tail) 0) fun x1=>gI (sget (l.tail.tail) 0) fun x2=>gB (sget (l.tail.tail.tail) 0) fun x3=>f x0 x1 x2 x3
abbrev j_LILIIB {R : Type} (l : Slots) (f : Option Addr × Nat→Int→Option Addr × Nat→Int→Int→Bool→Option R) : Option R:=gL (sget l 0) fun x0=>gI (sget (l.tail) 0) fun x1=>gL (sget (l.tail.tail) 0) fun x2=>gI (sget (l.tail.tail.tail) 0) fun x3=>gI (sget (l.tail.tail.tail.tail) 0) fun x4=>gB (sget (l.tail.tail.tail.tail.tail) 0) fun x5=>f x0 x1 x2 x3 x4 x5
abbrev j_LLIIB {R : Type} (l : Slots) (f : Option Addr × Nat→Option Addr × Nat→Int→Int→Bool→Option R) : Option R:=gL (sget l 0) fun x0=>gL (sget (l.tail) 0) fun x1=>gI (sget (l.tail.tail) 0) fun x2=>gI (sget (l.tail.tail.tail) 0) fun x3=>gB (sget (l.tail.tail.tail.tail) 0) fun x4=>f x0 x1 x2 x3 x4
abbrev j_PAIB {R : Type} (l : Slots) (f : Option Addr→Addr→Int→Bool→Option R) : Option R:=gP (sget l 0) fun x0=>gA (sget (l.tail) 0) fun x1=>gI (sget (l.tail.tail) 0) fun x2=>gB (sget (l.tail.tail.tail) 0) fun x3=>f x0 x1 x2 x3
abbrev l_IB {R : Type} (l : List Value) (f : Int→Bool→Option R) : Option R:=gI (l[0]?) fun x0=>gB (l[1]?) fun x1=>f x0 x1
abbrev l_IIIIIT {R : Type} (l : List Value) (f : Int→Int→Int→Int→Int→ByteArray→Option R) : Option R:=gI (l[0]?) fun x0=>gI (l[1]?) fun x1=>gI (l[2]?) fun x2=>gI (l[3]?) fun x3=>gI (l[4]?) fun x4=>gT (l[5]?) fun x5=>f x0 x1 x2 x3 x4 x5
abbrev l_IIIITL {R : Type} (l : List Value) (f : Int→Int→Int→Int→ByteArray→Option Addr × Nat→Option R) : Option R:=gI (l[0]?) fun x0=>gI (l[1]?) fun x1=>gI (l[2]?) fun x2=>gI (l[3]?) fun x3=>gT (l[4]?) fun x4=>gL (l[5]?) fun x5=>f x0 x1 x2 x3 x4 x5
abbrev l_IILLL {R : Type} (l : List Value) (f : Int→Int→Option Addr × Nat→Option Addr × Nat→Option Addr × Nat→Option R) : Option R:=gI (l[0]?) fun x0=>gI (l[1]?) fun x1=>gL (l[2]?) fun x2=>gL (l[3]?) fun x3=>gL (l[4]?) fun x4=>f x0 x1 x2 x3 x4
abbrev l_IITL {R : Type} (l : List Value) (f : Int→Int→ByteArray→Option Addr × Nat→Option R) : Option R:=gI (l[0]?) fun x0=>gI (l[1]?) fun x1=>gT (l[2]?) fun x2=>gL (l[3]?) fun x3=>f x0 x1 x2 x3
abbrev l_LLIL {R : Type} (l : List Value) (f : Option Addr × Nat→Option Addr × Nat→Int→Option Addr × Nat→Option R) : Option R:=gL (l[0]?) fun x0=>gL (l[1]?) fun x1=>gI (l[2]?) fun x2=>gL (l[3]?) fun x3=>f x0 x1 x2 x3
end Go.Proofs.Ytkdenmdijdmnjaa.Am
