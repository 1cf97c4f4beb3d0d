/- The tables of the abstract machine for this program: its types, what its functions hand back, where their ways meet.
Conditions: none. -/
import Derived.Test.YtkdenmdijdmnjaaGreatProg
import Derived.Test.YtkdenmdijdmnjaaGreatMd
import Derived.WalkKit
set_option maxRecDepth 1000000
namespace Go.Proofs.YtkdenmdijdmnjaaGreat.Am
open Go Go.RowKit
open _root_.List renaming forall_mem_cons->aA
open _root_.Nat renaming lt_irrefl->cX
variable{R:Type}
def t3:TI:=⟨false,[(.int .i64)],0,[],[(.int .i64 0)],8,0⟩
theorem ti3:bh Tryz.prog 3 t3:=bh.of (z:=(.int .i64 0)) (by kernel_rfl) rfl rfl rfl Tryz.underlying3 ⟨rfl,rfl,rfl⟩ (λh=>absurd h (cX 0)) (λ_=>rfl)
def t4:TI:=⟨false,[.bool],0,[],[(.bool false)],1,0⟩
theorem ti4:bh Tryz.prog 4 t4:=bh.of (z:=(.bool false)) (by kernel_rfl) rfl rfl rfl Tryz.underlying4 ⟨rfl,rfl,rfl⟩ (λh=>absurd h (cX 0)) (λh=>nomatch (show false=true from h))
def t5:TI:=⟨false,[(.int .u8)],0,[],[(.int .u8 0)],1,0⟩
theorem ti5:bh Tryz.prog 5 t5:=bh.of (z:=(.int .u8 0)) (by kernel_rfl) rfl rfl rfl Tryz.underlying5 ⟨rfl,rfl,rfl⟩ (λh=>absurd h (cX 0)) (λh=>nomatch (show false=true from h))
def t9:TI:=⟨false,[.str],0,[],[(.string ⟨#[]⟩)],16,0⟩
theorem ti9:bh Tryz.prog 9 t9:=bh.of (z:=(.string ⟨#[]⟩)) (by kernel_rfl) rfl rfl rfl Tryz.underlying9 ⟨rfl,rfl,rfl⟩ (λh=>absurd h (cX 0)) (λh=>nomatch (show false=true from h))
def t22:TI:=⟨false,[.slice],70,[],[(.slice none 0 0)],24,0⟩
theorem afa:bh Tryz.prog 22 t22:=bh.of (z:=(.slice none 0 0)) (by kernel_rfl) rfl rfl rfl Tryz.underlying22 ⟨rfl,rfl,rfl,rfl⟩ (λh=>absurd h (cX 0)) (λh=>nomatch (show false=true from h))
def t23:TI:=⟨false,[.slice],74,[],[(.slice none 0 0)],24,0⟩
theorem afb:bh Tryz.prog 23 t23:=bh.of (z:=(.slice none 0 0)) (by kernel_rfl) rfl rfl rfl Tryz.underlying23 ⟨rfl,rfl,rfl,rfl⟩ (λh=>absurd h (cX 0)) (λh=>nomatch (show false=true from h))
def t24:TI:=⟨false,[.slice],79,[],[(.slice none 0 0)],24,0⟩
theorem afc:bh Tryz.prog 24 t24:=bh.of (z:=(.slice none 0 0)) (by kernel_rfl) rfl rfl rfl Tryz.underlying24 ⟨rfl,rfl,rfl,rfl⟩ (λh=>absurd h (cX 0)) (λh=>nomatch (show false=true from h))
def t26:TI:=⟨true,[.slice,.slice,(.int .i64),.slice],0,[(0,22),(1,23),(2,3),(3,24)],[(.slice none 0 0),(.slice none 0 0),(.int .i64 0),(.slice none 0 0)],80,0⟩
theorem afd:bh Tryz.prog 26 t26:=bh.of (z:=.agg #[(.slice none 0 0),(.slice none 0 0),(.int .i64 0),(.slice none 0 0)]) (by kernel_rfl) rfl rfl rfl Tryz.underlying26 ⟨rfl,rfl⟩ (λh=>absurd h (cX 0)) (λh=>nomatch (show false=true from h))
def t28:TI:=⟨false,[.slice],89,[],[(.slice none 0 0)],24,0⟩
theorem afe:bh Tryz.prog 28 t28:=bh.of (z:=(.slice none 0 0)) (by kernel_rfl) rfl rfl rfl Tryz.underlying28 ⟨rfl,rfl,rfl,rfl⟩ (λh=>absurd h (cX 0)) (λh=>nomatch (show false=true from h))
def t29:TI:=⟨false,[.slice],53,[],[(.slice none 0 0)],24,0⟩
theorem aff:bh Tryz.prog 29 t29:=bh.of (z:=(.slice none 0 0)) (by kernel_rfl) rfl rfl rfl Tryz.underlying29 ⟨rfl,rfl,rfl,rfl⟩ (λh=>absurd h (cX 0)) (λh=>nomatch (show false=true from h))
def t30:TI:=⟨false,[.slice],82,[],[(.slice none 0 0)],24,0⟩
theorem afg:bh Tryz.prog 30 t30:=bh.of (z:=(.slice none 0 0)) (by kernel_rfl) rfl rfl rfl Tryz.underlying30 ⟨rfl,rfl,rfl,rfl⟩ (λh=>absurd h (cX 0)) (λh=>nomatch (show false=true from h))
def t32:TI:=⟨true,[.slice,.slice,(.int .i64),.slice],0,[(0,28),(1,29),(2,3),(3,30)],[(.slice none 0 0),(.slice none 0 0),(.int .i64 0),(.slice none 0 0)],80,0⟩
theorem afh:bh Tryz.prog 32 t32:=bh.of (z:=.agg #[(.slice none 0 0),(.slice none 0 0),(.int .i64 0),(.slice none 0 0)]) (by kernel_rfl) rfl rfl rfl Tryz.underlying32 ⟨rfl,rfl⟩ (λh=>absurd h (cX 0)) (λh=>nomatch (show false=true from h))
def t46:TI:=⟨false,[.ptr],0,[],[(.pointer none)],8,0⟩
theorem afi:bh Tryz.prog 46 t46:=bh.of (z:=(.pointer none)) (by kernel_rfl) rfl rfl rfl Tryz.underlying46 ⟨rfl,rfl,rfl⟩ (λh=>absurd h (cX 0)) (λh=>nomatch (show false=true from h))
def t50:TI:=⟨false,[.slice],56,[],[(.slice none 0 0)],24,0⟩
theorem afj:bh Tryz.prog 50 t50:=bh.of (z:=(.slice none 0 0)) (by kernel_rfl) rfl rfl rfl Tryz.underlying50 ⟨rfl,rfl,rfl,rfl⟩ (λh=>absurd h (cX 0)) (λh=>nomatch (show false=true from h))
def t51:TI:=⟨false,[.slice],3,[],[(.slice none 0 0)],24,0⟩
theorem afk:bh Tryz.prog 51 t51:=bh.of (z:=(.slice none 0 0)) (by kernel_rfl) rfl rfl rfl Tryz.underlying51 ⟨rfl,rfl,rfl,rfl⟩ (λh=>absurd h (cX 0)) (λh=>nomatch (show false=true from h))
def t53:TI:=⟨true,[(.int .i64),(.int .i64),.slice,.slice,.slice],0,[(0,3),(1,3),(2,50),(3,50),(4,51)],[(.int .i64 0),(.int .i64 0),(.slice none 0 0),(.slice none 0 0),(.slice none 0 0)],88,0⟩
theorem afl:bh Tryz.prog 53 t53:=bh.of (z:=.agg #[(.int .i64 0),(.int .i64 0),(.slice none 0 0),(.slice none 0 0),(.slice none 0 0)]) (by kernel_rfl) rfl rfl rfl Tryz.underlying53 ⟨rfl,rfl⟩ (λh=>absurd h (cX 0)) (λh=>nomatch (show false=true from h))
def t56:TI:=⟨true,[(.int .i64),(.int .i64),.str,.slice],0,[(0,3),(1,3),(2,9),(3,50)],[(.int .i64 0),(.int .i64 0),(.string ⟨#[]⟩),(.slice none 0 0)],56,0⟩
theorem afm:bh Tryz.prog 56 t56:=bh.of (z:=.agg #[(.int .i64 0),(.int .i64 0),(.string ⟨#[]⟩),(.slice none 0 0)]) (by kernel_rfl) rfl rfl rfl Tryz.underlying56 ⟨rfl,rfl⟩ (λh=>absurd h (cX 0)) (λh=>nomatch (show false=true from h))
def t58:TI:=⟨true,[(.int .i64),(.int .i64),(.int .i64),(.int .i64),(.int .i64),.str,.slice],0,[(0,3),(1,3),(2,3),(3,56)],[(.int .i64 0),(.int .i64 0),(.int .i64 0),(.int .i64 0),(.int .i64 0),(.string ⟨#[]⟩),(.slice none 0 0)],80,0⟩
theorem afn:bh Tryz.prog 58 t58:=bh.of (z:=.agg #[(.int .i64 0),(.int .i64 0),(.int .i64 0),(.int .i64 0),(.int .i64 0),(.string ⟨#[]⟩),(.slice none 0 0)]) (by kernel_rfl) rfl rfl rfl Tryz.underlying58 ⟨rfl,rfl⟩ (λh=>absurd h (cX 0)) (λh=>nomatch (show false=true from h))
def t70:TI:=⟨true,[(.int .i64),(.int .i64),(.int .i64),(.int .i64),(.int .i64),.str],0,[(0,3),(1,3),(2,3),(3,3),(4,3),(5,9)],[(.int .i64 0),(.int .i64 0),(.int .i64 0),(.int .i64 0),(.int .i64 0),(.string ⟨#[]⟩)],56,0⟩
theorem afo:bh Tryz.prog 70 t70:=bh.of (z:=.agg #[(.int .i64 0),(.int .i64 0),(.int .i64 0),(.int .i64 0),(.int .i64 0),(.string ⟨#[]⟩)]) (by kernel_rfl) rfl rfl rfl Tryz.underlying70 ⟨rfl,rfl⟩ (λh=>absurd h (cX 0)) (λh=>nomatch (show false=true from h))
def t72:TI:=⟨false,[.slice],77,[],[(.slice none 0 0)],24,0⟩
theorem afp:bh Tryz.prog 72 t72:=bh.of (z:=(.slice none 0 0)) (by kernel_rfl) rfl rfl rfl Tryz.underlying72 ⟨rfl,rfl,rfl,rfl⟩ (λh=>absurd h (cX 0)) (λh=>nomatch (show false=true from h))
def t74:TI:=⟨true,[(.int .i64),(.int .i64),.slice,.slice,.slice],0,[(0,3),(1,3),(2,72),(3,72),(4,51)],[(.int .i64 0),(.int .i64 0),(.slice none 0 0),(.slice none 0 0),(.slice none 0 0)],88,0⟩
theorem afq:bh Tryz.prog 74 t74:=bh.of (z:=.agg #[(.int .i64 0),(.int .i64 0),(.slice none 0 0),(.slice none 0 0),(.slice none 0 0)]) (by kernel_rfl) rfl rfl rfl Tryz.underlying74 ⟨rfl,rfl⟩ (λh=>absurd h (cX 0)) (λh=>nomatch (show false=true from h))
def t77:TI:=⟨true,[(.int .i64),(.int .i64),.str,.slice],0,[(0,3),(1,3),(2,9),(3,72)],[(.int .i64 0),(.int .i64 0),(.string ⟨#[]⟩),(.slice none 0 0)],56,0⟩
theorem afr:bh Tryz.prog 77 t77:=bh.of (z:=.agg #[(.int .i64 0),(.int .i64 0),(.string ⟨#[]⟩),(.slice none 0 0)]) (by kernel_rfl) rfl rfl rfl Tryz.underlying77 ⟨rfl,rfl⟩ (λh=>absurd h (cX 0)) (λh=>nomatch (show false=true from h))
def t79:TI:=⟨true,[(.int .i64),(.int .i64),(.int .i64),(.int .i64),.str,.slice],0,[(0,3),(1,3),(2,77)],[(.int .i64 0),(.int .i64 0),(.int .i64 0),(.int .i64 0),(.string ⟨#[]⟩),(.slice none 0 0)],72,0⟩
theorem afs:bh Tryz.prog 79 t79:=bh.of (z:=.agg #[(.int .i64 0),(.int .i64 0),(.int .i64 0),(.int .i64 0),(.string ⟨#[]⟩),(.slice none 0 0)]) (by kernel_rfl) rfl rfl rfl Tryz.underlying79 ⟨rfl,rfl⟩ (λh=>absurd h (cX 0)) (λh=>nomatch (show false=true from h))
def t82:TI:=⟨true,[(.int .i64),(.int .i64),(.int .i64),(.int .i64),.str,.slice],0,[(0,3),(1,3),(2,56)],[(.int .i64 0),(.int .i64 0),(.int .i64 0),(.int .i64 0),(.string ⟨#[]⟩),(.slice none 0 0)],72,0⟩
theorem aft:bh Tryz.prog 82 t82:=bh.of (z:=.agg #[(.int .i64 0),(.int .i64 0),(.int .i64 0),(.int .i64 0),(.string ⟨#[]⟩),(.slice none 0 0)]) (by kernel_rfl) rfl rfl rfl Tryz.underlying82 ⟨rfl,rfl⟩ (λh=>absurd h (cX 0)) (λh=>nomatch (show false=true from h))
def t89:TI:=⟨true,[(.int .i64),(.int .i64),(.int .i64),(.int .i64),(.int .i64),.str],0,[(0,3),(1,3),(2,3),(3,3),(4,3),(5,9)],[(.int .i64 0),(.int .i64 0),(.int .i64 0),(.int .i64 0),(.int .i64 0),(.string ⟨#[]⟩)],56,0⟩
theorem afu:bh Tryz.prog 89 t89:=bh.of (z:=.agg #[(.int .i64 0),(.int .i64 0),(.int .i64 0),(.int .i64 0),(.int .i64 0),(.string ⟨#[]⟩)]) (by kernel_rfl) rfl rfl rfl Tryz.underlying89 ⟨rfl,rfl⟩ (λh=>absurd h (cX 0)) (λh=>nomatch (show false=true from h))
def t133:TI:=⟨false,[.slice],5,[],[(.slice none 0 0)],24,0⟩
theorem aak:bh Tryz.prog 133 t133:=bh.of (z:=(.slice none 0 0)) (by kernel_rfl) rfl rfl rfl Tryz.underlying133 ⟨rfl,rfl,rfl,rfl⟩ (λh=>absurd h (cX 0)) (λh=>nomatch (show false=true from h))
def t134:TI:=⟨false,[.slice],9,[],[(.slice none 0 0)],24,0⟩
theorem aal:bh Tryz.prog 134 t134:=bh.of (z:=(.slice none 0 0)) (by kernel_rfl) rfl rfl rfl Tryz.underlying134 ⟨rfl,rfl,rfl,rfl⟩ (λh=>absurd h (cX 0)) (λh=>nomatch (show false=true from h))
def tab:List (Nat×TI):=[(3,t3),(4,t4),(5,t5),(9,t9),(22,t22),(23,t23),(24,t24),(26,t26),(28,t28),(29,t29),(30,t30),(32,t32),(46,t46),(50,t50),(51,t51),(53,t53),(56,t56),(58,t58),(70,t70),(72,t72),(74,t74),(77,t77),(79,t79),(82,t82),(89,t89),(133,t133),(134,t134)]
theorem aam:∀ p∈tab,bh Tryz.prog p.1 p.2:=aA.2 ⟨ti3,aA.2 ⟨ti4,aA.2 ⟨ti5,aA.2 ⟨ti9,aA.2 ⟨afa,aA.2 ⟨afb,aA.2 ⟨afc,aA.2 ⟨afd,aA.2 ⟨afe,aA.2 ⟨aff,aA.2 ⟨afg,aA.2 ⟨afh,aA.2 ⟨afi,aA.2 ⟨afj,aA.2 ⟨afk,aA.2 ⟨afl,aA.2 ⟨afm,aA.2 ⟨afn,aA.2 ⟨afo,aA.2 ⟨afp,aA.2 ⟨afq,aA.2 ⟨afr,aA.2 ⟨afs,aA.2 ⟨aft,aA.2 ⟨afu,aA.2 ⟨aak,aA.2 ⟨aal,(λ_ h=>nomatch h)⟩⟩⟩⟩⟩⟩⟩⟩⟩⟩⟩⟩⟩⟩⟩⟩⟩⟩⟩⟩⟩⟩⟩⟩⟩⟩⟩
def fns:List (Nat×List (Bool×List K)):=[(3,[(false,[.bool])]),(4,[(false,[(.int .i64)])]),(5,[(true,[.slice,.slice,(.int .i64),.slice]),(false,[.bool])]),(6,[(true,[.slice,.slice,(.int .i64),.slice])]),(7,[(true,[.slice,.slice,(.int .i64),.slice]),(false,[.bool])]),(8,[(false,[.bool])]),(9,[(false,[(.int .i64)])]),(10,[(false,[(.int .i64)])]),(11,[(false,[(.int .i64)])]),(12,[(false,[(.int .i64)])]),(13,[(false,[(.int .i64)])]),(14,[(true,[.slice,.slice,(.int .i64),.slice])]),(15,[(false,[.bool])]),(16,[(false,[.bool])]),(17,[]),(18,[(false,[.slice])]),(19,[(false,[.slice])]),(20,[(false,[.slice])]),(21,[(true,[.slice,.slice,(.int .i64),.slice])]),(22,[(false,[.bool])]),(23,[(false,[.bool])]),(24,[(false,[(.int .i64)])]),(25,[(true,[(.int .i64),(.int .i64),.slice,.slice,.slice]),(true,[(.int .i64),(.int .i64),(.int .i64),(.int .i64),(.int .i64),.str,.slice])]),(26,[(false,[.bool])]),(27,[(false,[.bool])]),(28,[(false,[.bool])]),(29,[(false,[.bool])]),(30,[(false,[(.int .i64)])]),(31,[(false,[(.int .i64)])]),(32,[(false,[(.int .i64)])]),(33,[(false,[(.int .i64)])]),(34,[(false,[(.int .i64)])]),(35,[(false,[(.int .i64)])]),(36,[(false,[(.int .i64)])]),(37,[(false,[(.int .i64)])]),(38,[(false,[(.int .i64)])]),(39,[(true,[(.int .i64),(.int .i64),.slice,.slice,.slice])]),(40,[(true,[(.int .i64),(.int .i64),.str,.slice])]),(41,[(false,[.bool])]),(42,[(false,[.bool])]),(43,[(false,[.bool])]),(44,[(false,[.bool])]),(45,[(false,[(.int .i64)])]),(46,[(true,[(.int .i64),(.int .i64),.slice,.slice,.slice]),(true,[(.int .i64),(.int .i64),(.int .i64),(.int .i64),(.int .i64),.str,.slice])]),(47,[(false,[.bool])]),(48,[(true,[(.int .i64),(.int .i64),(.int .i64),(.int .i64),(.int .i64),.str])]),(49,[(true,[(.int .i64),(.int .i64),.slice,.slice,.slice])]),(50,[(true,[(.int .i64),(.int .i64),(.int .i64),(.int .i64),.str,.slice])]),(51,[(false,[.slice])]),(52,[(true,[(.int .i64),(.int .i64),.slice,.slice,.slice])]),(53,[(false,[.bool])]),(54,[(false,[.bool])]),(55,[(false,[.bool])]),(56,[(false,[.bool])]),(57,[(true,[(.int .i64),(.int .i64),(.int .i64),(.int .i64),(.int .i64),.str,.slice]),(false,[.bool])]),(58,[(true,[(.int .i64),(.int .i64),(.int .i64),(.int .i64),(.int .i64),.str,.slice])]),(59,[(false,[.bool])]),(60,[(true,[(.int .i64),(.int .i64),.str,.slice]),(false,[.bool])]),(61,[(false,[.bool])]),(62,[(true,[(.int .i64),(.int .i64),.str,.slice])]),(63,[(false,[.bool])]),(64,[(false,[.bool])]),(65,[]),(66,[(true,[(.int .i64),(.int .i64),.str,.slice])]),(67,[(true,[(.int .i64),(.int .i64),.slice,.slice,.slice])]),(68,[(false,[.slice])]),(69,[]),(70,[(false,[.bool])]),(71,[(false,[.bool])]),(72,[(false,[.bool])]),(73,[(false,[.str])]),(74,[(false,[(.int .i64)])]),(75,[(false,[(.int .i64)])]),(76,[(false,[(.int .i64)])]),(77,[(false,[(.int .i64)])]),(78,[(false,[(.int .i64)])]),(79,[(false,[(.int .i64)])]),(80,[(false,[(.int .i64)])]),(81,[(false,[.slice])]),(82,[(false,[.bool])]),(83,[(false,[.bool])]),(84,[(false,[.bool])]),(85,[(false,[.bool])]),(86,[(false,[.bool])]),(87,[(false,[.bool])]),(88,[(true,[(.int .i64),(.int .i64),.slice,.slice,.slice]),(true,[(.int .i64),(.int .i64),(.int .i64),(.int .i64),(.int .i64),.str,.slice])]),(89,[(true,[(.int .i64),(.int .i64),.str,.slice]),(false,[.bool])]),(90,[(false,[.bool])]),(91,[]),(92,[(true,[(.int .i64),(.int .i64),.str,.slice])]),(93,[(true,[(.int .i64),(.int .i64),.slice,.slice,.slice])]),(94,[(false,[.slice])]),(95,[]),(96,[(false,[.slice])]),(97,[(false,[.slice])]),(98,[(true,[(.int .i64),(.int .i64),.str,.slice])]),(99,[(false,[.slice])]),(100,[(false,[.slice])]),(101,[(false,[.bool])]),(102,[(false,[.bool])]),(103,[(false,[.bool])]),(104,[(false,[(.int .i64)]),(false,[.bool])]),(105,[(false,[.bool])]),(106,[(false,[.slice])]),(107,[(false,[.bool])]),(108,[(false,[.slice])]),(109,[(false,[.bool])]),(110,[(false,[.bool])]),(111,[(false,[.bool])]),(112,[(false,[.slice])]),(113,[(false,[.bool])]),(114,[(false,[.bool])]),(115,[(false,[.bool])]),(116,[(false,[(.int .i64)])]),(117,[(true,[(.int .i64),(.int .i64),.str,.slice])]),(118,[(true,[(.int .i64),(.int .i64),.str,.slice])]),(119,[(true,[(.int .i64),(.int .i64),.str,.slice]),(false,[.bool])]),(120,[(false,[.slice])]),(121,[(false,[.slice])]),(122,[(false,[.bool])]),(123,[(false,[.bool])]),(124,[(false,[.bool])]),(125,[(false,[.bool])]),(126,[(false,[.bool])]),(127,[(false,[.bool])]),(128,[(false,[.str])]),(129,[(false,[.bool])]),(130,[(false,[(.int .i64)])]),(131,[(false,[.bool])]),(132,[(false,[.bool])]),(133,[(false,[(.int .i64)])])]
theorem aan:∀ p∈fns,∀ args w,(callFunc p.1 args).run Tryz.prog w = .ok (.enter p.1 args) w:=aA.2 ⟨λa w=>Tryz.call3 a w,aA.2 ⟨λa w=>Tryz.call4 a w,aA.2 ⟨λa w=>Tryz.call5 a w,aA.2 ⟨λa w=>Tryz.call6 a w,aA.2 ⟨λa w=>Tryz.call7 a w,aA.2 ⟨λa w=>Tryz.call8 a w,aA.2 ⟨λa w=>Tryz.call9 a w,aA.2 ⟨λa w=>Tryz.call10 a w,aA.2 ⟨λa w=>Tryz.call11 a w,aA.2 ⟨λa w=>Tryz.call12 a w,aA.2 ⟨λa w=>Tryz.call13 a w,aA.2 ⟨λa w=>Tryz.call14 a w,aA.2 ⟨λa w=>Tryz.call15 a w,aA.2 ⟨λa w=>Tryz.call16 a w,aA.2 ⟨λa w=>Tryz.call17 a w,aA.2 ⟨λa w=>Tryz.call18 a w,aA.2 ⟨λa w=>Tryz.call19 a w,aA.2 ⟨λa w=>Tryz.call20 a w,aA.2 ⟨λa w=>Tryz.call21 a w,aA.2 ⟨λa w=>Tryz.call22 a w,aA.2 ⟨λa w=>Tryz.call23 a w,aA.2 ⟨λa w=>Tryz.call24 a w,aA.2 ⟨λa w=>Tryz.call25 a w,aA.2 ⟨λa w=>Tryz.call26 a w,aA.2 ⟨λa w=>Tryz.call27 a w,aA.2 ⟨λa w=>Tryz.call28 a w,aA.2 ⟨λa w=>Tryz.call29 a w,aA.2 ⟨λa w=>Tryz.call30 a w,aA.2 ⟨λa w=>Tryz.call31 a w,aA.2 ⟨λa w=>Tryz.call32 a w,aA.2 ⟨λa w=>Tryz.call33 a w,aA.2 ⟨λa w=>Tryz.call34 a w,aA.2 ⟨λa w=>Tryz.call35 a w,aA.2 ⟨λa w=>Tryz.call36 a w,aA.2 ⟨λa w=>Tryz.call37 a w,aA.2 ⟨λa w=>Tryz.call38 a w,aA.2 ⟨λa w=>Tryz.call39 a w,aA.2 ⟨λa w=>Tryz.call40 a w,aA.2 ⟨λa w=>Tryz.call41 a w,aA.2 ⟨λa w=>Tryz.call42 a w,aA.2 ⟨λa w=>Tryz.call43 a w,aA.2 ⟨λa w=>Tryz.call44 a w,aA.2 ⟨λa w=>Tryz.call45 a w,aA.2 ⟨λa w=>Tryz.call46 a w,aA.2 ⟨λa w=>Tryz.call47 a w,aA.2 ⟨λa w=>Tryz.call48 a w,aA.2 ⟨λa w=>Tryz.call49 a w,aA.2 ⟨λa w=>Tryz.call50 a w,aA.2 ⟨λa w=>Tryz.call51 a w,aA.2 ⟨λa w=>Tryz.call52 a w,aA.2 ⟨λa w=>Tryz.call53 a w,aA.2 ⟨λa w=>Tryz.call54 a w,aA.2 ⟨λa w=>Tryz.call55 a w,aA.2 ⟨λa w=>Tryz.call56 a w,aA.2 ⟨λa w=>Tryz.call57 a w,aA.2 ⟨λa w=>Tryz.call58 a w,aA.2 ⟨λa w=>Tryz.call59 a w,aA.2 ⟨λa w=>Tryz.call60 a w,aA.2 ⟨λa w=>Tryz.call61 a w,aA.2 ⟨λa w=>Tryz.call62 a w,aA.2 ⟨λa w=>Tryz.call63 a w,aA.2 ⟨λa w=>Tryz.call64 a w,aA.2 ⟨λa w=>Tryz.call65 a w,aA.2 ⟨λa w=>Tryz.call66 a w,aA.2 ⟨λa w=>Tryz.call67 a w,aA.2 ⟨λa w=>Tryz.call68 a w,aA.2 ⟨λa w=>Tryz.call69 a w,aA.2 ⟨λa w=>Tryz.call70 a w,aA.2 ⟨λa w=>Tryz.call71 a w,aA.2 ⟨λa w=>Tryz.call72 a w,aA.2 ⟨λa w=>Tryz.call73 a w,aA.2 ⟨λa w=>Tryz.call74 a w,aA.2 ⟨λa w=>Tryz.call75 a w,aA.2 ⟨λa w=>Tryz.call76 a w,aA.2 ⟨λa w=>Tryz.call77 a w,aA.2 ⟨λa w=>Tryz.call78 a w,aA.2 ⟨λa w=>Tryz.call79 a w,aA.2 ⟨λa w=>Tryz.call80 a w,aA.2 ⟨λa w=>Tryz.call81 a w,aA.2 ⟨λa w=>Tryz.call82 a w,aA.2 ⟨λa w=>Tryz.call83 a w,aA.2 ⟨λa w=>Tryz.call84 a w,aA.2 ⟨λa w=>Tryz.call85 a w,aA.2 ⟨λa w=>Tryz.call86 a w,aA.2 ⟨λa w=>Tryz.call87 a w,aA.2 ⟨λa w=>Tryz.call88 a w,aA.2 ⟨λa w=>Tryz.call89 a w,aA.2 ⟨λa w=>Tryz.call90 a w,aA.2 ⟨λa w=>Tryz.call91 a w,aA.2 ⟨λa w=>Tryz.call92 a w,aA.2 ⟨λa w=>Tryz.call93 a w,aA.2 ⟨λa w=>Tryz.call94 a w,aA.2 ⟨λa w=>Tryz.call95 a w,aA.2 ⟨λa w=>Tryz.call96 a w,aA.2 ⟨λa w=>Tryz.call97 a w,aA.2 ⟨λa w=>Tryz.call98 a w,aA.2 ⟨λa w=>Tryz.call99 a w,aA.2 ⟨λa w=>Tryz.call100 a w,aA.2 ⟨λa w=>Tryz.call101 a w,aA.2 ⟨λa w=>Tryz.call102 a w,aA.2 ⟨λa w=>Tryz.call103 a w,aA.2 ⟨λa w=>Tryz.call104 a w,aA.2 ⟨λa w=>Tryz.call105 a w,aA.2 ⟨λa w=>Tryz.call106 a w,aA.2 ⟨λa w=>Tryz.call107 a w,aA.2 ⟨λa w=>Tryz.call108 a w,aA.2 ⟨λa w=>Tryz.call109 a w,aA.2 ⟨λa w=>Tryz.call110 a w,aA.2 ⟨λa w=>Tryz.call111 a w,aA.2 ⟨λa w=>Tryz.call112 a w,aA.2 ⟨λa w=>Tryz.call113 a w,aA.2 ⟨λa w=>Tryz.call114 a w,aA.2 ⟨λa w=>Tryz.call115 a w,aA.2 ⟨λa w=>Tryz.call116 a w,aA.2 ⟨λa w=>Tryz.call117 a w,aA.2 ⟨λa w=>Tryz.call118 a w,aA.2 ⟨λa w=>Tryz.call119 a w,aA.2 ⟨λa w=>Tryz.call120 a w,aA.2 ⟨λa w=>Tryz.call121 a w,aA.2 ⟨λa w=>Tryz.call122 a w,aA.2 ⟨λa w=>Tryz.call123 a w,aA.2 ⟨λa w=>Tryz.call124 a w,aA.2 ⟨λa w=>Tryz.call125 a w,aA.2 ⟨λa w=>Tryz.call126 a w,aA.2 ⟨λa w=>Tryz.call127 a w,aA.2 ⟨λa w=>Tryz.call128 a w,aA.2 ⟨λa w=>Tryz.call129 a w,aA.2 ⟨λa w=>Tryz.call130 a w,aA.2 ⟨λa w=>Tryz.call131 a w,aA.2 ⟨λa w=>Tryz.call132 a w,aA.2 ⟨λa w=>Tryz.call133 a w,(λ_ h=>nomatch h)⟩⟩⟩⟩⟩⟩⟩⟩⟩⟩⟩⟩⟩⟩⟩⟩⟩⟩⟩⟩⟩⟩⟩⟩⟩⟩⟩⟩⟩⟩⟩⟩⟩⟩⟩⟩⟩⟩⟩⟩⟩⟩⟩⟩⟩⟩⟩⟩⟩⟩⟩⟩⟩⟩⟩⟩⟩⟩⟩⟩⟩⟩⟩⟩⟩⟩⟩⟩⟩⟩⟩⟩⟩⟩⟩⟩⟩⟩⟩⟩⟩⟩⟩⟩⟩⟩⟩⟩⟩⟩⟩⟩⟩⟩⟩⟩⟩⟩⟩⟩⟩⟩⟩⟩⟩⟩⟩⟩⟩⟩⟩⟩⟩⟩⟩⟩⟩⟩⟩⟩⟩⟩⟩⟩⟩⟩⟩⟩⟩⟩⟩
abbrev zN:Option (Bool × List K):=none
abbrev zI:Option (Bool × List K):=some (false,[(.int .i64)])
abbrev zA:Option (Bool × List K):=some (false,[.addr])
abbrev zB:Option (Bool × List K):=some (false,[.bool])
abbrev zS:Option (Bool × List K):=some (false,[.slice])
abbrev zP:Option (Bool × List K):=some (false,[.ptr])
abbrev zT:Option (Bool × List K):=some (false,[.str])
abbrev zL:bL:=.leaf
abbrev zq(a b:bL):bL:=.seq none a b
abbrev zr(n:Nat):List (Option (Bool × List K)):=List.replicate n none
def a3:bL:=(zq zL (zq zL (zq zL (zq (zq zL (.cond (zq zL zL) zL)) (zq zL (zq zL (zq zL (zq (.seq (some ([zN,zI,zI,zA,zN,zN,zN,zN,zA,zB,zA,zA,zB]++zr 35++[zB]++zr 57)) zL (.cond (zq zL zL) zL)) (zq (zq zL (.cond (zq zL zL) zL)) (zq zL (zq zL (zq (.seq (some ([zN,zI,zI,zA,zN,zN,zN,zN,zA,zB,zN,zA]++zr 57++[zB]++zr 36)) zL (.cond (zq zL zL) zL)) (zq zL (zq zL (zq zL (zq zL (zq (zq zL (.cond (zq zL zL) zL)) (zq (zq zL (.cond (zq zL zL) zL)) (zq zL (zq (.seq (some (zr 11++[zA,zN,zN,zI]++zr 82++[zB]++zr 8)) zL (.cond (zq zL zL) zL)) (zq zL (zq zL (zq (zq zL (.cond (zq zL zL) zL)) (zq (zq zL (.cond (zq zL zL) zL)) (zq zL zL)))))))))))))))))))))))))
def a4:bL:=(zq zL (zq zL (zq (zq zL (.cond (zq zL zL) zL)) (zq zL (zq (zq zL (.cond (zq zL zL) zL)) (zq zL (zq (zq zL (.cond (zq zL zL) zL)) (zq zL zL))))))))
def a5:bL:=(zq zL (zq zL (zq (.seq (some ([zN,zI,zI,zN,zN,zN,zA,zN,zA]++zr 19++[zB]++zr 5)) zL (.cond (zq zL zL) zL)) (zq zL (zq zL zL)))))
def a6:bL:=(zq zL (zq zL (zq zL (zq zL (zq zL (zq zL (zq zL zL)))))))
def aao:Shape:=(zr 6++[zA,zN,zA,zI]++zr 34++[zI,zI]++zr 27)
def aap:List (Nat×Shape):=[(2,(zr 6++[zA,zN,zA]++zr 64))]
def aaq:bL:=(zq zL (zq (.cond zL zL) (zq (.block (zq zL (zq zL (zq zL (zq zL (.cond zL zL)))))) zL)))
def a7:bL:=(zq zL (zq zL (zq (.seq (some ([zN,zI,zI,zA,zN,zN,zA,zN,zA]++zr 23++[zB]++zr 40)) zL (.cond (zq zL zL) zL)) (zq zL (zq (zq zL (.block (.loop aao aap aaq))) (zq zL zL))))))
def a8:bL:=(zq zL (zq (zq zL (.cond (zq zL zL) zL)) (zq (zq zL (.cond (zq zL zL) zL)) (zq (zq zL (.cond (zq zL zL) zL)) (zq (zq zL (.cond (zq zL zL) zL)) (zq zL zL))))))
def a9:bL:=(zq zL (zq zL (zq zL (zq zL (zq zL zL)))))
def nt:bL:=(zq zL (zq zL (zq (zq zL (.cond (zq zL zL) zL)) (zq zL (zq (zq zL (.cond (zq zL zL) zL)) (zq zL (zq (zq zL (.cond (zq zL zL) zL)) (zq zL zL))))))))
def Rm:Shape:=([zS,zI,zN,zN,zN,zI]++zr 21)
def Rn:List (Nat×Shape):=[(1,([zN,zN,zN,zN,zI]++zr 22)),(2,([zN,zI]++zr 25))]
def Ro:bL:=(zq (zq zL (.cond zL zL)) (zq (.block (zq zL (zq zL (.cond (zq zL zL) zL)))) zL))
def yT:bL:=(zq zL (zq zL (zq (zq zL (.cond (zq zL zL) zL)) (zq (zq zL (.block (.loop Rm Rn Ro))) (zq zL zL)))))
def Rp:Shape:=([zS,zI,zN,zN,zN,zI]++zr 21)
def Rq:List (Nat×Shape):=[(1,([zN,zN,zN,zN,zI]++zr 22)),(2,([zN,zI]++zr 25))]
def Rr:bL:=(zq (zq zL (.cond zL zL)) (zq (.block (zq zL (zq zL (.cond (zq zL zL) zL)))) zL))
def yU:bL:=(zq zL (zq zL (zq (zq zL (.cond (zq zL zL) zL)) (zq (zq zL (.block (.loop Rp Rq Rr))) (zq zL zL)))))
def Rt:Shape:=([zS,zI,zN,zN,zN,zI]++zr 21)
def Ru:List (Nat×Shape):=[(1,([zN,zN,zN,zN,zI]++zr 22)),(2,([zN,zI]++zr 25))]
def Rv:bL:=(zq (zq zL (.cond zL zL)) (zq (.block (zq zL (zq zL (.cond (zq zL zL) zL)))) zL))
def my:bL:=(zq zL (zq zL (zq (zq zL (.cond (zq zL zL) zL)) (zq (zq zL (.block (.loop Rt Ru Rv))) (zq zL zL)))))
def Rw:Shape:=([zN,zA,zA,zA,zN,zI]++zr 49)
def Rx:List (Nat×Shape):=[(4,([zN,zN,zA,zA]++zr 51))]
def Ry:bL:=(zq (zq zL (.cond zL zL)) (zq (.block (zq zL (zq zL zL))) zL))
def Rz:Shape:=([zN,zA,zA,zA,zI]++zr 50)
def RA:List (Nat×Shape):=[(2,([zN,zA,zA,zA]++zr 51))]
def RB:bL:=(zq (zq zL (.cond zL zL)) (zq (.block zL) zL))
def sY:bL:=(zq zL (zq zL (zq (zq zL (.block (.loop Rz RA RB))) (zq (zq zL (.block (.loop Rw Rx Ry))) (zq zL zL)))))
def RC:Shape:=([zN,zA,zN,zI]++zr 69)
def RD:List (Nat×Shape):=[(1,([zN,zN,zB]++zr 70)),(2,(zr 73))]
def RE:bL:=(zq (zq zL (.cond zL zL)) (zq (.block (zq zL (.seq (some ([zN,zA,zN,zI]++zr 68++[zB])) zL (.cond (zq zL zL) zL)))) zL))
def Ec:bL:=(zq zL (zq (.seq (some ([zN,zA]++zr 24++[zB]++zr 46)) zL (.cond (zq zL zL) zL)) (zq (zq zL (.block (.loop RC RD RE))) (zq zL zL))))
def ww:bL:=(zq zL (zq zL zL))
def RF:Shape:=([zP,zN,zI,zN,zN,zN,zI,zB,zI]++zr 60)
def RG:List (Nat×Shape):=[(2,(zr 69))]
def RH:bL:=(zq (.seq (some ([zP,zN,zI,zN,zN,zN,zI,zN,zI]++zr 22++[zB]++zr 37)) zL (.cond zL zL)) (zq (.block (zq zL (zq zL (zq zL zL)))) zL))
def a17:bL:=(zq zL (zq zL (zq zL (.block (.loop RF RG RH)))))
def RI:Shape:=([zS,zN,zN,zS,zI]++zr 18)
def RJ:List (Nat×Shape):=[(2,([zN,zN,zN,zS]++zr 19))]
def RK:bL:=(zq (zq zL (.cond zL zL)) (zq (.block zL) zL))
def nu:bL:=(zq zL (zq zL (zq (zq zL (.block (.loop RI RJ RK))) (zq zL zL))))
def RL:Shape:=([zS,zN,zN,zS,zI]++zr 18)
def RM:List (Nat×Shape):=[(2,([zN,zN,zN,zS]++zr 19))]
def RN:bL:=(zq (zq zL (.cond zL zL)) (zq (.block zL) zL))
def a19:bL:=(zq zL (zq zL (zq (zq zL (.block (.loop RL RM RN))) (zq zL zL))))
def RO:Shape:=([zS,zN,zN,zS,zI]++zr 18)
def RP:List (Nat×Shape):=[(2,([zN,zN,zN,zS]++zr 19))]
def RQ:bL:=(zq (zq zL (.cond zL zL)) (zq (.block zL) zL))
def Ob:bL:=(zq zL (zq zL (zq (zq zL (.block (.loop RO RP RQ))) (zq zL zL))))
def RR:Shape:=([zN,zN,zA,zA]++zr 12++[zS,zI,zI]++zr 12)
def RS:List (Nat×Shape):=[(2,([zN,zN,zA,zA]++zr 27))]
def RT:bL:=(zq zL (zq (.cond zL zL) (zq (.block (zq zL zL)) zL)))
def Oc:bL:=(zq zL (zq zL (zq (zq zL (.block (.loop RR RS RT))) (zq zL zL))))
def RU:Shape:=([zN,zA,zN,zN,zA]++zr 26++[zS,zI,zI]++zr 33++[zS,zI,zI]++zr 21)
def RV:List (Nat×Shape):=[(1,([zN,zN,zB]++zr 88)),(4,([zN,zA]++zr 29++[zS,zI,zI]++zr 57))]
def RW:bL:=(zq zL (zq (.cond zL zL) (zq (.block (zq zL (zq zL (.seq (some ([zN,zA,zN,zN,zA]++zr 26++[zS,zI,zI]++zr 33++[zS,zI,zI]++zr 18++[zB,zN,zN])) zL (.cond (zq zL zL) zL))))) zL)))
def RX:Shape:=([zN,zA]++zr 29++[zS,zI,zI]++zr 57)
def RY:List (Nat×Shape):=[(1,([zN,zN,zB]++zr 88)),(2,(zr 91))]
def RZ:bL:=(zq zL (zq (.cond zL zL) (zq (.block (zq zL (zq (.seq (some ([zN,zA,zN,zN,zA]++zr 26++[zS,zI,zI]++zr 31++[zB]++zr 25)) zL (.cond (zq zL zL) zL)) (zq zL (.block (.loop RU RV RW)))))) zL)))
def Kh:bL:=(zq zL (zq (.seq (some ([zN,zA]++zr 27++[zB]++zr 61)) zL (.cond (zq zL zL) zL)) (zq (zq zL (.block (.loop RX RY RZ))) (zq zL zL))))
def Od:bL:=(zq zL (zq zL zL))
def R0:Shape:=([zN,zI]++zr 8++[zS,zI,zI]++zr 10)
def R4:List (Nat×Shape):=[(1,([zN,zN,zN,zN,zI]++zr 18)),(2,(zr 23))]
def R5:bL:=(zq zL (zq (.cond zL zL) (zq (.block (zq zL (zq zL (.cond (zq zL zL) zL)))) zL)))
def I9:bL:=(zq zL (zq (zq zL (.block (.loop R0 R4 R5))) (zq zL zL)))
def a25:bL:=(zq zL (zq zL (zq (.seq (some ([zS,zN,zI,zN,zA,zN,zA,zA,zA]++zr 15++[zB]++zr 98)) zL (.cond (zq zL zL) zL)) (zq zL (zq zL (.seq (some ([zN,zN,zN,zN,zA,zN,zA,zA,zA,zA,zA]++zr 112)) (.block (zq zL (.cond (zq zL zL) (zq zL (.cond (zq zL zL) (.seq (some ([zN,zN,zI,zN,zA,zN,zA,zA,zA,zA,zA]++zr 40++[zB]++zr 71)) zL (.cond (zq zL zL) (zq zL (.cond (zq zL zL) (zq zL (.cond (zq zL (zq (.seq (some ([zN,zN,zN,zN,zA,zN,zA,zA,zA,zA,zA,zN,zA]++zr 87++[zB]++zr 22)) zL (.cond (zq zL zL) zL)) zL)) zL))))))))))) (zq zL (.seq (some (zr 6++[zA,zA,zA,zN,zA]++zr 112)) (zq zL (.cond zL zL)) (zq zL zL)))))))))
def Pg:bL:=(zq zL (.seq (some (zr 5++[zA]++zr 95)) (zq zL (.block (zq zL (.cond zL (zq zL (.cond (zq (.seq (some ([zP,zI,zN,zN,zN,zA]++zr 25++[zB]++zr 69)) zL (.cond (zq zL (zq zL zL)) zL)) (zq zL (zq zL zL))) (zq zL (.cond zL (zq zL (.cond zL (zq zL (.cond (zq zL (zq zL zL)) zL)))))))))))) (zq zL zL)))
def R6:Shape:=([zS,zS,zN,zN,zN,zI]++zr 21)
def R7:List (Nat×Shape):=[(1,([zN,zN,zN,zN,zB]++zr 22)),(2,(zr 27))]
def R8:bL:=(zq (zq zL (.cond zL zL)) (zq (.block (zq zL (.cond (zq zL zL) zL))) zL))
def Ph:bL:=(zq zL (zq (zq zL (.cond (zq zL zL) zL)) (zq (zq zL (.block (.loop R6 R7 R8))) (zq zL zL))))
def R9:Shape:=([zS,zS,zN,zN,zN,zI]++zr 21)
def R_:List (Nat×Shape):=[(1,([zN,zN,zN,zN,zB]++zr 22)),(2,(zr 27))]
def Sa:bL:=(zq (zq zL (.cond zL zL)) (zq (.block (zq zL (.cond (zq zL zL) zL))) zL))
def a28:bL:=(zq zL (zq (zq zL (.cond (zq zL zL) zL)) (zq (zq zL (.block (.loop R9 R_ Sa))) (zq zL zL))))
def Sb:Shape:=([zS,zS,zN,zN,zN,zI]++zr 21)
def Se:List (Nat×Shape):=[(1,([zN,zN,zN,zN,zB]++zr 22)),(2,(zr 27))]
def Sf:bL:=(zq (zq zL (.cond zL zL)) (zq (.block (zq zL (.cond (zq zL zL) zL))) zL))
def Sg:bL:=(zq zL (zq (zq zL (.cond (zq zL zL) zL)) (zq (zq zL (.block (.loop Sb Se Sf))) (zq zL zL))))
def Sh:Shape:=([zS,zI,zN,zN,zN,zI]++zr 50)
def Si:List (Nat×Shape):=[(2,([zN,zI]++zr 54))]
def Sj:bL:=(zq (zq zL (.cond zL zL)) (zq (.block (zq zL (zq zL (zq zL (zq zL (zq zL (zq zL (zq zL (zq zL (zq zL (zq zL (zq zL zL)))))))))))) zL))
def A2:bL:=(zq zL (zq (zq zL (.block (.loop Sh Si Sj))) (zq zL zL)))
def Sk:Shape:=([zS,zI,zN,zN,zN,zI]++zr 42)
def Sm:List (Nat×Shape):=[(2,([zN,zI]++zr 46))]
def Sn:bL:=(zq (zq zL (.cond zL zL)) (zq (.block (zq zL (zq zL (zq zL (zq zL (zq zL (zq zL zL))))))) zL))
def a31:bL:=(zq zL (zq (zq zL (.block (.loop Sk Sm Sn))) (zq zL zL)))
def Sp:Shape:=([zS,zI,zN,zN,zN,zI]++zr 54)
def Sq:List (Nat×Shape):=[(2,([zN,zI]++zr 58))]
def Sr:bL:=(zq (zq zL (.cond zL zL)) (zq (.block (zq zL (zq zL (zq zL (zq zL (zq zL (zq zL (zq zL (zq zL (zq zL (zq zL zL))))))))))) zL))
def GC:bL:=(zq zL (zq (zq zL (.block (.loop Sp Sq Sr))) (zq zL zL)))
def Ss:Shape:=([zS,zI,zN,zN,zN,zI]++zr 62)
def Su:List (Nat×Shape):=[(1,([zN,zN,zN,zN,zI]++zr 63)),(2,([zN,zI]++zr 66))]
def Sv:bL:=(zq (zq zL (.cond zL zL)) (zq (.block (zq (zq zL (.cond (zq zL zL) zL)) (zq zL (zq (zq zL (.cond (zq zL zL) zL)) (zq zL (zq (zq zL (.cond (zq zL zL) zL)) (zq zL (zq (zq zL (.cond (zq zL zL) zL)) (zq zL (zq (zq zL (.cond (zq zL zL) zL)) (zq zL (zq (zq zL (.cond (zq zL zL) zL)) zL)))))))))))) zL))
def a33:bL:=(zq zL (zq (zq zL (.block (.loop Ss Su Sv))) (zq zL zL)))
def Sx:Shape:=([zS,zI,zN,zN,zN,zI]++zr 52)
def Sy:List (Nat×Shape):=[(1,([zN,zN,zN,zN,zI]++zr 53)),(2,([zN,zI]++zr 56))]
def SA:bL:=(zq (zq zL (.cond zL zL)) (zq (.block (zq (zq zL (.cond (zq zL zL) zL)) (zq zL (zq (zq zL (.cond (zq zL zL) zL)) (zq zL (zq zL (zq (zq zL (.cond (zq zL zL) zL)) (zq zL (zq (zq zL (.cond (zq zL zL) zL)) (zq zL (zq zL (.cond (zq zL zL) zL)))))))))))) zL))
def xE:bL:=(zq zL (zq (zq zL (.block (.loop Sx Sy SA))) (zq zL zL)))
def SB:Shape:=([zS,zI,zN,zN,zN,zI]++zr 66)
def SC:List (Nat×Shape):=[(1,([zN,zN,zN,zN,zI]++zr 67)),(2,([zN,zI]++zr 70))]
def SD:bL:=(zq (zq zL (.cond zL zL)) (zq (.block (zq (zq zL (.cond (zq zL zL) zL)) (zq zL (zq (zq zL (.cond (zq zL zL) zL)) (zq zL (zq (zq zL (.cond (zq zL zL) zL)) (zq zL (zq (zq zL (.cond (zq zL zL) zL)) (zq zL (zq (zq zL (.cond (zq zL zL) zL)) (zq zL (zq zL (zq zL (.cond (zq zL zL) zL)))))))))))))) zL))
def a35:bL:=(zq zL (zq (zq zL (.block (.loop SB SC SD))) (zq zL zL)))
def EU:bL:=(zq zL (zq zL (zq (zq zL (.cond (zq zL zL) zL)) (zq zL zL))))
def a37:bL:=(zq zL (zq zL (zq (zq zL (.cond (zq zL zL) zL)) (zq zL (zq (zq zL (.cond (zq zL zL) zL)) (zq zL (zq (zq zL (.cond (zq zL zL) zL)) (zq zL zL))))))))
def A3:bL:=(zq zL (zq zL (zq (zq zL (.cond (zq zL zL) zL)) (zq zL zL))))
def a39:bL:=(zq zL (zq zL zL))
def SE:Shape:=([zN,zA,zA,zA,zI]++zr 22)
def SF:List (Nat×Shape):=[(2,([zN,zN,zA,zA]++zr 23))]
def SG:bL:=(zq (zq zL (.cond zL zL)) (zq (.block zL) zL))
def Oe:bL:=(zq zL (zq zL (zq zL (zq (zq zL (.block (.loop SE SF SG))) (zq zL zL)))))
def SH:Shape:=([zS,zN,zN,zI,zI]++zr 35)
def SI:List (Nat×Shape):=[(1,([zN,zN,zB]++zr 37)),(2,(zr 40))]
def SJ:bL:=(zq (zq zL (.cond zL zL)) (zq (.block (zq zL (.cond (zq zL zL) zL))) zL))
def a41:bL:=(zq zL (zq zL (zq (.seq (some ([zS,zN,zN,zI]++zr 23++[zB]++zr 12)) zL (.cond (zq zL zL) zL)) (zq (zq zL (.block (.loop SH SI SJ))) (zq zL zL)))))
def SK:Shape:=([zS,zN,zN,zI]++zr 34)
def SL:List (Nat×Shape):=[(1,([zN,zN,zB]++zr 35)),(2,([zS]++zr 37))]
def SM:bL:=(zq (zq zL (.cond zL zL)) (zq (.block (.seq (some ([zS,zN,zN,zI]++zr 30++[zB,zN,zN,zN])) zL (.cond (zq zL zL) zL))) zL))
def SN:bL:=(zq zL (zq (zq zL (.block (.loop SK SL SM))) (zq zL zL)))
def a43:bL:=(zq zL (zq (.seq (some ([zN,zN,zN,zA]++zr 30++[zB]++zr 15)) zL (.cond (zq zL zL) zL)) (zq zL zL)))
def SO:Shape:=([zN,zN,zA,zN,zN,zA,zI]++zr 34)
def SP:List (Nat×Shape):=[(1,([zN,zN,zN,zN,zB]++zr 36)),(2,(zr 41))]
def SQ:bL:=(zq (zq zL (.cond zL zL)) (zq (.block (zq zL (.seq (some ([zN,zN,zA,zN,zN,zA,zI]++zr 33++[zB])) zL (.cond (zq zL zL) zL)))) zL))
def SS:bL:=(zq zL (zq zL (zq (zq zL (.block (.loop SO SP SQ))) (zq zL zL))))
def SU:Shape:=([zN,zI,zA,zN,zN,zI]++zr 16)
def SV:List (Nat×Shape):=[(1,([zN,zN,zN,zN,zI]++zr 17)),(2,(zr 22))]
def SW:bL:=(zq (zq zL (.cond zL zL)) (zq (.block (zq zL (.cond (zq zL zL) zL))) zL))
def a45:bL:=(zq zL (zq (zq zL (.block (.loop SU SV SW))) (zq zL zL)))
def SX:bL:=(zq zL (zq zL (zq zL (zq zL (zq zL (zq zL (zq (zq zL (.block (zq zL (.cond (.seq (some (zr 6++[zA,zA,zN,zA,zA]++zr 166)) (zq zL (.cond zL zL)) (zq zL zL)) (zq zL (.cond (.seq (some (zr 6++[zA,zA,zN,zA,zA]++zr 166)) (zq zL (.cond zL zL)) (zq zL zL)) (zq zL (.cond (zq zL (zq zL zL)) (.seq (some ([zN,zN,zI,zN,zA,zN,zA,zA,zA,zA,zA,zA]++zr 22++[zI]++zr 35++[zB]++zr 106)) (zq zL (.cond zL zL)) (.cond (zq (zq zL (.cond (zq zL zL) zL)) (zq (zq zL (.cond (zq zL zL) zL)) (zq zL zL))) (zq zL (.cond (zq zL zL) (zq zL (.cond (zq zL (zq zL zL)) (zq zL (.cond (zq (zq zL (.cond (zq zL zL) zL)) (zq zL (zq zL (zq zL zL)))) zL)))))))))))))))) (zq zL (zq (.seq (some ([zN,zN,zI,zN,zA,zN,zA,zA,zA,zA,zA,zN,zA]++zr 136++[zB]++zr 27)) zL (.cond (zq zL zL) zL)) (.seq (some (zr 6++[zA,zA,zA,zA,zA,zN,zA]++zr 164)) (zq zL (.cond zL zL)) (zq zL (zq zL zL))))))))))))
def a47:bL:=(zq zL (zq (zq zL (.block (zq zL (.cond (zq zL zL) (zq zL (.cond zL (zq zL (.cond (zq (.seq (some ([zP,zI,zN,zN,zN,zA]++zr 27++[zB]++zr 67)) zL (.cond (zq zL (zq zL zL)) zL)) (zq zL (zq zL zL))) (zq zL (.cond zL (zq zL (.cond zL (zq zL (.cond (zq zL (zq zL zL)) zL)))))))))))))) (zq zL zL)))
def SY:bL:=(zq zL (zq zL (zq zL (zq zL (zq zL (zq zL (zq zL (zq zL (zq zL zL)))))))))
def a49:bL:=(zq zL (zq zL (zq zL (zq zL (zq zL (zq zL (zq zL (zq zL zL))))))))
def a50:bL:=(zq zL (zq zL (zq zL (zq zL (zq zL (zq zL zL))))))
def SZ:Shape:=([zN,zN,zN,zS,zN,zN,zS,zI,zI]++zr 13)
def S0:List (Nat×Shape):=[(2,([zN,zN,zN,zS]++zr 18))]
def S9:bL:=(zq zL (zq (.cond zL zL) (zq (.block (zq zL (zq zL zL))) zL)))
def a51:bL:=(zq zL (zq zL (zq (zq zL (.block (.loop SZ S0 S9))) (zq zL zL))))
def a52:bL:=(zq zL (zq zL (zq zL zL)))
def S_:Shape:=([zS,zN,zN,zI,zN,zN,zN,zN,zS,zI,zI]++zr 28)
def Ta:List (Nat×Shape):=[(1,([zN,zN,zB]++zr 36)),(2,([zS,zN,zN,zI]++zr 35))]
def Tb:bL:=(zq zL (zq (.cond zL zL) (zq (.block (zq zL (zq zL (.cond (zq zL zL) zL)))) zL)))
def Tc:bL:=(zq zL (zq zL (zq (zq zL (.block (.loop S_ Ta Tb))) (zq zL zL))))
def Td:Shape:=([zS,zN,zN,zN,zN,zS,zI,zI]++zr 23)
def Te:List (Nat×Shape):=[(1,([zN,zN,zB]++zr 28)),(2,([zS]++zr 30))]
def Tf:bL:=(zq zL (zq (.cond zL zL) (zq (.block (zq zL (.seq (some ([zS,zN,zN,zN,zN,zS,zI,zI]++zr 18++[zB,zN,zN,zN,zN])) zL (.cond (zq zL zL) zL)))) zL)))
def a54:bL:=(zq zL (zq (zq zL (.block (.loop Td Te Tf))) (zq zL zL)))
def Tg:bL:=(zq zL (zq zL zL))
def Th:Shape:=([zN,zI]++zr 5++[zS,zI,zI]++zr 7)
def Ti:List (Nat×Shape):=[(1,([zN,zN,zN,zN,zB]++zr 12)),(2,(zr 17))]
def Tj:bL:=(zq zL (zq (.cond zL zL) (zq (.block (zq zL (zq zL (.cond (zq zL zL) zL)))) zL)))
def a56:bL:=(zq zL (zq (zq zL (.block (.loop Th Ti Tj))) (zq zL zL)))
def a57:bL:=(zq zL (zq zL (zq (zq zL (.block (zq zL (.cond (zq zL zL) (zq zL (.cond (zq zL zL) (zq zL (.cond (zq zL zL) (zq zL (.cond (zq zL zL) (zq zL (.cond (zq zL zL) zL)))))))))))) (zq zL zL))))
def a58:bL:=(zq zL (zq zL zL))
def a59:bL:=(zq zL (zq (zq zL (.block (.seq (some ([zN,zN,zN,zN,zB]++zr 7)) (zq zL (.cond zL (zq zL (.cond zL (zq zL (.cond zL (zq zL (.cond zL (zq zL (.cond zL (zq zL (.cond zL zL)))))))))))) (.cond (zq zL zL) zL)))) (zq zL zL)))
def a60:bL:=(zq zL (zq zL (zq (zq zL (.block (zq zL (.cond (zq zL zL) (zq zL (.cond (zq zL zL) (zq zL (.cond (zq zL zL) (zq zL (.cond (zq zL zL) (zq zL (.cond (zq zL zL) (zq zL (.cond (zq zL zL) (zq zL (.cond (zq (.seq (some ([zN,zN,zN,zN,zA,zN,zN,zN,zA,zN,zA]++zr 64++[zB]++zr 53)) zL (.cond (zq zL zL) zL)) (zq zL zL)) (.seq (some ([zN,zN,zI,zI,zA,zN,zN,zN,zA,zN,zA,zA]++zr 11++[zI]++zr 59++[zB]++zr 45)) (zq zL (.cond zL zL)) (.cond (zq (.seq (some ([zN,zN,zN,zN,zA,zN,zN,zN,zA,zN,zA]++zr 83++[zB]++zr 34)) zL (.cond (zq zL zL) zL)) (zq (zq zL (.cond (zq zL zL) zL)) (zq zL zL))) (zq zL (.cond (zq zL zL) (zq zL (.cond (zq zL zL) zL)))))))))))))))))))))) (zq zL zL))))
def a61:bL:=(zq zL (zq zL (zq zL zL)))
def a62:bL:=(zq zL (zq zL (zq zL zL)))
def a63:bL:=(zq zL (zq (zq zL (.block (zq zL (.cond (zq zL zL) (zq zL (.cond (zq zL zL) zL)))))) (zq zL zL)))
def a64:bL:=(zq zL (zq zL (zq (.seq (some ([zP,zN,zN,zN,zN,zA,zN,zI]++zr 16++[zB]++zr 37)) zL (.cond (zq zL zL) zL)) (.wk [38,58] (zq (.qx 25 26 4) (.cond (zq zL zL) zL)) (zq zL zL)))))
def Tk:Shape:=([zP,zN,zN,zN,zN,zA]++zr 74++[zS,zI,zI]++zr 8)
def Tl:List (Nat×Shape):=[(4,(zr 91))]
def Tn:bL:=(zq zL (zq (.cond zL zL) (zq (.block (zq zL zL)) zL)))
def To:Shape:=([zP,zI,zN,zN,zN,zA,zN,zS]++zr 38++[zI,zI]++zr 43)
def Tp:List (Nat×Shape):=[(2,([zP,zI,zN,zN,zN,zA,zN,zS]++zr 83))]
def Tq:bL:=(zq zL (zq (.cond zL zL) (zq (.block (zq zL zL)) zL)))
def Tr:bL:=(zq zL (zq zL (zq (zq zL (.cond zL zL)) (zq zL (zq zL (zq (zq zL (.block (.loop To Tp Tq))) (zq zL (zq (zq zL (.cond zL zL)) (zq zL (.block (.loop Tk Tl Tn)))))))))))
def a66:bL:=(zq zL (zq zL zL))
def Ts:Shape:=(zr 6++[zA,zA]++zr 30)
def Tt:List (Nat×Shape):=[(2,(zr 6++[zA,zA]++zr 30))]
def Tu:bL:=(zq (zq zL (.cond zL zL)) (.block zL))
def a67:bL:=(zq zL (zq (.seq (some ([zI,zI,zN,zN,zN,zA,zA]++zr 12++[zB]++zr 18)) zL (.cond (zq zL zL) zL)) (zq zL (zq (.block (.loop Ts Tt Tu)) (zq zL zL)))))
def a68:bL:=(zq zL (zq (zq zL (.cond (zq zL zL) zL)) (zq zL zL)))
def a69:bL:=(zq zL (zq (.seq (some ([zP,zI,zI,zN,zN,zN,zI,zI]++zr 40++[zB]++zr 34)) zL (.cond zL zL)) (zq zL zL)))
def a70:bL:=(zq zL (zq (zq zL (.cond (zq zL zL) zL)) (zq (zq zL (.cond (zq zL zL) zL)) (zq (zq zL (.cond (zq zL zL) zL)) (zq (zq zL (.cond (zq zL zL) zL)) (zq (zq zL (.cond (zq zL zL) zL)) (zq (zq zL (.cond (zq zL zL) zL)) (zq zL zL))))))))
def a71:bL:=(zq zL (zq (zq zL (.cond (zq zL zL) zL)) (zq (zq zL (.cond (zq zL zL) zL)) (zq (zq zL (.cond (zq zL zL) zL)) (zq (zq zL (.cond (zq zL zL) zL)) (zq (zq zL (.cond (zq zL zL) zL)) (zq zL zL)))))))
def a72:bL:=(zq zL (zq (zq zL (.cond (zq zL zL) zL)) (zq (zq zL (.cond (zq zL zL) zL)) (zq (zq zL (.cond (zq zL zL) zL)) (zq zL zL)))))
def Tv:Shape:=([zI,zN,zN,zT]++zr 16)
def Tw:List (Nat×Shape):=[(2,([zN,zN,zN,zT]++zr 16))]
def Tx:bL:=(zq (zq zL (.cond zL zL)) (.block (zq zL zL)))
def a73:bL:=(zq zL (zq (zq zL (.cond (zq zL zL) zL)) (zq zL (zq (.block (.loop Tv Tw Tx)) (zq zL zL)))))
def Ty:Shape:=([zS,zI,zN,zN,zN,zI]++zr 36)
def Tz:List (Nat×Shape):=[(2,([zN,zI]++zr 40))]
def TA:bL:=(zq (zq zL (.cond zL zL)) (zq (.block (zq zL (zq zL (zq zL (zq zL (zq zL (zq zL zL))))))) zL))
def a74:bL:=(zq zL (zq (zq zL (.block (.loop Ty Tz TA))) (zq zL zL)))
def TB:Shape:=([zS,zI,zN,zN,zN,zI]++zr 13)
def TC:List (Nat×Shape):=[(2,([zN,zI]++zr 17))]
def TD:bL:=(zq (zq zL (.cond zL zL)) (zq (.block (zq zL zL)) zL))
def a75:bL:=(zq zL (zq (zq zL (.block (.loop TB TC TD))) (zq zL zL)))
def TE:Shape:=([zS,zI,zN,zN,zN,zI]++zr 44)
def TF:List (Nat×Shape):=[(1,([zN,zN,zN,zN,zI]++zr 45)),(2,([zN,zI]++zr 48))]
def TG:bL:=(zq (zq zL (.cond zL zL)) (zq (.block (zq (zq zL (.cond (zq zL zL) zL)) (zq zL (zq (zq zL (.cond (zq zL zL) zL)) (zq zL (zq (zq zL (.cond (zq zL zL) zL)) (zq zL (zq zL (zq zL (.cond (zq zL zL) zL)))))))))) zL))
def a76:bL:=(zq zL (zq (zq zL (.block (.loop TE TF TG))) (zq zL zL)))
def TH:Shape:=([zS,zI,zN,zN,zN,zI]++zr 15)
def TJ:List (Nat×Shape):=[(1,([zN,zN,zN,zN,zI]++zr 16)),(2,([zN,zI]++zr 19))]
def TK:bL:=(zq (zq zL (.cond zL zL)) (zq (.block (zq (zq zL (.cond (zq zL zL) zL)) zL)) zL))
def a77:bL:=(zq zL (zq (zq zL (.block (.loop TH TJ TK))) (zq zL zL)))
def TL:Shape:=([zS,zI,zN,zN,zN,zI]++zr 21)
def TM:List (Nat×Shape):=[(1,([zN,zN,zN,zN,zI]++zr 22)),(2,([zN,zI]++zr 25))]
def TN:bL:=(zq (zq zL (.cond zL zL)) (zq (.block (zq zL (zq zL (.cond (zq zL zL) zL)))) zL))
def Pj:bL:=(zq zL (zq zL (zq (zq zL (.cond (zq zL zL) zL)) (zq (zq zL (.block (.loop TL TM TN))) (zq zL zL)))))
def a79:bL:=(zq zL (zq zL (zq (zq zL (.cond (zq zL zL) zL)) (zq zL zL))))
def a80:bL:=(zq zL (zq zL (zq (zq zL (.cond (zq zL zL) zL)) (zq zL (zq (zq zL (.cond (zq zL zL) zL)) (zq zL zL))))))
def TO:Shape:=([zS,zN,zN,zS,zI]++zr 16)
def TP:List (Nat×Shape):=[(2,([zN,zN,zN,zS]++zr 17))]
def TQ:bL:=(zq (zq zL (.cond zL zL)) (zq (.block zL) zL))
def a81:bL:=(zq zL (zq zL (zq (zq zL (.block (.loop TO TP TQ))) (zq zL zL))))
def a82:bL:=(zq zL (zq (.seq (some ([zN,zI,zA]++zr 11++[zB]++zr 63)) zL (.cond (zq zL zL) zL)) (zq zL (zq (.seq (some ([zN,zI,zA]++zr 52++[zB]++zr 22)) zL (.cond (zq zL zL) zL)) (zq (.seq (some ([zN,zI,zA]++zr 71++[zB,zN,zN,zN])) zL (.cond (zq zL zL) zL)) (zq zL zL))))))
def a83:bL:=(zq zL (zq zL zL))
def TR:Shape:=([zS,zN,zN,zI]++zr 12)
def TS:List (Nat×Shape):=[(1,([zN,zN,zB]++zr 13)),(2,(zr 16))]
def TT:bL:=(zq (zq zL (.cond zL zL)) (zq (.block (zq zL (.cond (zq zL zL) zL))) zL))
def a84:bL:=(zq zL (zq (zq zL (.block (.loop TR TS TT))) (zq zL zL)))
def TU:Shape:=([zS,zI,zN,zN,zN,zI]++zr 39)
def TV:List (Nat×Shape):=[(1,([zN,zN,zN,zN,zB]++zr 40)),(2,([zS]++zr 44))]
def TW:bL:=(zq (zq zL (.cond zL zL)) (zq (.block (.seq (some ([zS,zI,zN,zN,zN,zI]++zr 35++[zB,zN,zN,zN])) zL (.cond (zq zL zL) zL))) zL))
def a85:bL:=(zq zL (zq (zq zL (.block (.loop TU TV TW))) (zq zL zL)))
def TX:Shape:=([zS,zI,zN,zN,zN,zI]++zr 12)
def TY:List (Nat×Shape):=[(1,([zN,zN,zN,zN,zB]++zr 13)),(2,(zr 18))]
def TZ:bL:=(zq (zq zL (.cond zL zL)) (zq (.block (zq zL (.cond (zq zL zL) zL))) zL))
def a86:bL:=(zq zL (zq (zq zL (.block (.loop TX TY TZ))) (zq zL zL)))
def T0:Shape:=([zN,zN,zA,zA,zN,zI]++zr 47)
def T1:List (Nat×Shape):=[(1,([zN,zN,zN,zN,zB]++zr 48)),(2,(zr 53))]
def T3:bL:=(zq (zq zL (.cond zL zL)) (zq (.block (zq zL (.cond (zq zL zL) zL))) zL))
def Wf:bL:=(zq zL (zq (.seq (some ([zN,zN,zA,zA]++zr 29++[zB]++zr 19)) zL (.cond (zq zL zL) zL)) (zq (zq zL (.block (.loop T0 T1 T3))) (zq zL zL))))
def a88:bL:=(zq zL (zq zL zL))
def a89:bL:=(zq zL (zq (zq zL (.block (zq zL (.cond (zq zL zL) (zq zL (.cond (zq zL zL) (zq zL (.cond (zq zL zL) (zq zL (.cond (zq zL zL) (zq zL (.cond (zq zL zL) (zq zL (.cond (zq (.perm [0,1,2,3,4,5,6,8,9,10,11,12,13,14,15,7,16,17]) (zq zL zL)) (zq zL (.cond (zq zL zL) (zq zL (.cond (zq zL zL) zL)))))))))))))))))) (zq zL zL)))
def a90:bL:=(zq zL (zq zL (zq (.seq (some ([zP,zN,zN,zN,zN,zA,zN,zI]++zr 18++[zB]++zr 21)) zL (.cond (zq zL zL) zL)) (zq zL (zq zL zL)))))
def T7:Shape:=([zP,zN,zN,zN,zN,zA,zN,zS,zN,zI]++zr 89)
def T8:List (Nat×Shape):=[(4,(zr 99))]
def T9:bL:=(zq (.seq (some ([zP,zN,zN,zN,zN,zA,zN,zS,zN,zI]++zr 79++[zB]++zr 9)) zL (.cond zL zL)) (zq (.block zL) zL))
def T_:Shape:=([zP,zI,zN,zN,zN,zA,zN,zS,zI]++zr 90)
def Ua:List (Nat×Shape):=[(2,([zP,zI,zN,zN,zN,zA,zN,zS]++zr 91))]
def Ub:bL:=(zq (zq zL (.cond zL zL)) (zq (.block zL) zL))
def a91:bL:=(zq zL (zq zL (zq (zq zL (.cond zL zL)) (zq zL (zq zL (zq (zq zL (.block (.loop T_ Ua Ub))) (zq zL (zq zL (.block (.loop T7 T8 T9))))))))))
def a92:bL:=(zq zL (zq zL zL))
def Uc:Shape:=(zr 6++[zA,zA,zI]++zr 30)
def Ud:List (Nat×Shape):=[(2,(zr 6++[zA,zA]++zr 31))]
def Ue:bL:=(zq (zq zL (.cond zL zL)) (zq (.block zL) zL))
def a93:bL:=(zq zL (zq (.seq (some ([zI,zI,zN,zN,zN,zA,zA]++zr 13++[zB]++zr 18)) zL (.cond (zq zL zL) zL)) (zq zL (zq (zq zL (.block (.loop Uc Ud Ue))) (zq zL zL)))))
def a94:bL:=(zq zL (zq (zq zL (.cond (zq zL zL) zL)) (zq zL zL)))
def a95:bL:=(zq zL (zq zL (zq (.seq (some ([zP,zI,zI,zN,zN,zN,zI,zI]++zr 40++[zB]++zr 34)) zL (.cond zL zL)) (zq zL zL))))
def Uf:Shape:=([zS,zN,zN,zS,zI]++zr 18)
def Ug:List (Nat×Shape):=[(2,([zN,zN,zN,zS]++zr 19))]
def Uh:bL:=(zq (zq zL (.cond zL zL)) (zq (.block zL) zL))
def a96:bL:=(zq zL (zq zL (zq (zq zL (.block (.loop Uf Ug Uh))) (zq zL zL))))
def Ui:Shape:=([zS,zN,zN,zS,zI]++zr 17)
def Uj:List (Nat×Shape):=[(2,([zN,zN,zN,zS]++zr 18))]
def Uk:bL:=(zq (zq zL (.cond zL zL)) (zq (.block zL) zL))
def a97:bL:=(zq zL (zq zL (zq (zq zL (.block (.loop Ui Uj Uk))) (zq zL zL))))
def a98:bL:=(zq zL (zq zL (zq zL (zq zL (zq zL (zq zL (zq zL zL)))))))
def Ul:Shape:=([zN,zN,zN,zS,zN,zN,zS,zI,zI]++zr 10)
def Um:List (Nat×Shape):=[(2,([zN,zN,zN,zS]++zr 15))]
def Un:bL:=(zq zL (zq (.cond zL zL) (zq (.block (zq zL zL)) zL)))
def a99:bL:=(zq zL (zq zL (zq (zq zL (.block (.loop Ul Um Un))) (zq zL zL))))
def aar:bL:=(zq zL (zq zL zL))
def aas:bL:=(zq zL (zq (.seq (some ([zN,zI,zA]++zr 27++[zB]++zr 51)) zL (.cond (zq zL zL) zL)) (zq (zq zL (.block (zq zL (.cond (zq zL zL) (zq zL (.cond (zq zL zL) (zq zL (.cond (zq zL zL) (zq zL (.cond (zq zL zL) (zq zL (.cond (zq zL zL) (.seq (some ([zN,zI,zA]++zr 70++[zB]++zr 8)) (zq zL (.cond zL (zq zL (.cond zL zL)))) (.cond (zq zL zL) zL)))))))))))))) (zq zL zL))))
def Ki:Shape:=(zr 5++[zS,zI,zI]++zr 7)
def Kj:List (Nat×Shape):=[(1,([zN,zN,zB]++zr 12)),(2,(zr 15))]
def Kk:bL:=(zq zL (zq (.cond zL zL) (zq (.block (zq zL (zq zL (.cond (zq zL zL) zL)))) zL)))
def aat:bL:=(zq zL (zq (zq zL (.block (.loop Ki Kj Kk))) (zq zL zL)))
def Kl:Shape:=([zS,zI]++zr 5++[zS,zI,zI]++zr 29)
def Km:List (Nat×Shape):=[(1,([zN,zN,zN,zN,zB]++zr 34)),(2,([zS]++zr 38))]
def Kn:bL:=(zq zL (zq (.cond zL zL) (zq (.block (zq zL (.seq (some ([zS,zI]++zr 5++[zS,zI,zI]++zr 24++[zB,zN,zN,zN,zN])) zL (.cond (zq zL zL) zL)))) zL)))
def aau:bL:=(zq zL (zq (zq zL (.block (.loop Kl Km Kn))) (zq zL zL)))
def Ko:Shape:=([zN,zI,zI]++zr 24++[zS,zI,zI]++zr 17)
def Kq:List (Nat×Shape):=[(1,(zr 6++[zI,zB]++zr 39)),(2,([zN,zN,zI]++zr 44))]
def Kr:bL:=(zq zL (zq (.cond zL zL) (zq (.block (zq zL (zq zL (zq (zq zL (.cond (zq zL zL) zL)) zL)))) zL)))
def aav:bL:=(zq zL (zq zL (zq (.seq (some ([zN,zI,zI,zA]++zr 20++[zB]++zr 22)) zL (.cond (zq zL zL) zL)) (zq (zq zL (.block (.loop Ko Kq Kr))) (zq zL zL)))))
def Ks:Shape:=([zN,zN,zA,zA]++zr 32++[zI,zI]++zr 15)
def Kt:List (Nat×Shape):=[(1,([zN,zN,zN,zN,zB]++zr 48)),(2,(zr 53))]
def Ku:bL:=(zq zL (zq (.cond zL zL) (zq (.block (zq zL (zq zL (.cond (zq zL zL) zL)))) zL)))
def aaw:bL:=(zq zL (zq (.seq (some ([zN,zN,zA,zA]++zr 29++[zB]++zr 19)) zL (.cond (zq zL zL) zL)) (zq (zq zL (.block (.loop Ks Kt Ku))) (zq zL zL))))
def Kv:Shape:=([zN,zI,zN,zN,zN,zS,zN,zN,zS,zI,zI]++zr 12)
def Kw:List (Nat×Shape):=[(2,(zr 5++[zS]++zr 17))]
def Kx:bL:=(zq zL (zq (.cond zL zL) (zq (.block (zq zL (zq zL (.cond zL zL)))) zL)))
def aax:bL:=(zq zL (zq zL (zq (zq zL (.block (.loop Kv Kw Kx))) (zq zL zL))))
def aay:bL:=(zq zL (zq zL zL))
def Ky:Shape:=([zS,zI,zN,zN,zN,zI]++zr 39)
def Kz:List (Nat×Shape):=[(2,([zS,zI,zN,zN,zN,zI]++zr 39))]
def KA:bL:=(zq (.seq (some ([zS,zI,zN,zN,zN,zI]++zr 11++[zB]++zr 27)) zL (.cond zL zL)) (.block zL))
def aaz:bL:=(zq zL (zq zL (zq (.block (.loop Ky Kz KA)) (zq (.seq (some ([zS,zI,zN,zN,zN,zI]++zr 25++[zB]++zr 13)) zL (.cond (zq zL zL) zL)) (zq zL zL)))))
def KC:Shape:=([zS,zS,zN,zN,zN,zI]++zr 21)
def KD:List (Nat×Shape):=[(1,([zN,zN,zN,zN,zB]++zr 22)),(2,(zr 27))]
def KE:bL:=(zq (zq zL (.cond zL zL)) (zq (.block (zq zL (.cond (zq zL zL) zL))) zL))
def aaA:bL:=(zq zL (zq (zq zL (.cond (zq zL zL) zL)) (zq (zq zL (.block (.loop KC KD KE))) (zq zL zL))))
def KF:Shape:=([zS,zS,zN,zN,zN,zI]++zr 20)
def KG:List (Nat×Shape):=[(1,([zN,zN,zN,zN,zB]++zr 21)),(2,(zr 26))]
def KH:bL:=(zq (zq zL (.cond zL zL)) (zq (.block (zq zL (.cond (zq zL zL) zL))) zL))
def aaB:bL:=(zq zL (zq (zq zL (.cond (zq zL zL) zL)) (zq (zq zL (.block (.loop KF KG KH))) (zq zL zL))))
def aaC:bL:=(zq zL (zq (zq zL (.cond (zq zL zL) zL)) (zq (zq zL (.cond (zq zL zL) zL)) (zq (zq zL (.cond (zq zL zL) zL)) (zq (zq zL (.cond (zq zL zL) zL)) (zq zL zL))))))
def aaD:bL:=(zq zL (zq zL zL))
def aaE:bL:=(zq zL (zq (zq zL (.cond (zq zL zL) zL)) (zq zL zL)))
def KI:Shape:=([zT,zN,zN,zI]++zr 29)
def KJ:List (Nat×Shape):=[(1,([zN,zN,zB]++zr 30)),(2,([zT]++zr 32))]
def KK:bL:=(zq (zq zL (.cond zL zL)) (zq (.block (zq zL (.seq (some ([zT,zN,zN,zI]++zr 25++[zB,zN,zN,zN])) zL (.cond (zq zL zL) zL)))) zL))
def aaF:bL:=(zq zL (zq (zq zL (.block (.loop KI KJ KK))) (zq zL zL)))
def aaG:bL:=(zq zL (zq (zq zL (.block (zq zL (.cond (zq zL zL) (zq zL (.cond (zq zL zL) (zq zL (.cond (zq zL zL) (.seq (some ([zN,zI,zA]++zr 27++[zB]++zr 16)) (zq zL (.cond zL (zq zL (.cond zL (zq zL (.cond zL zL)))))) (.cond (zq zL zL) zL)))))))))) (zq zL zL)))
def KL:Shape:=([zN,zI,zI,zA,zN,zN,zN,zI]++zr 34)
def KM:List (Nat×Shape):=[(2,([zN,zN,zI]++zr 39))]
def KN:bL:=(zq (.seq (some ([zN,zI,zI,zA,zN,zN,zN,zI]++zr 21++[zB]++zr 12)) zL (.cond zL zL)) (zq (.block zL) zL))
def aaH:bL:=(zq zL (zq (.seq (some ([zN,zI,zI,zA]++zr 14++[zB]++zr 23)) zL (.cond (zq zL zL) zL)) (zq zL (zq (zq zL (.block (.loop KL KM KN))) (zq zL zL)))))
def aaI:bL:=(zq zL (zq zL zL))
def aaJ:bL:=(zq zL (zq zL zL))
def aaK:bL:=(zq zL (zq zL (zq (zq zL (.block (zq zL (.cond (zq (.seq (some ([zN,zN,zA,zN,zA,zN,zA]++zr 21++[zB]++zr 54)) zL (.cond (zq zL zL) zL)) (zq zL zL)) (.seq (some ([zN,zN,zA,zA,zA,zN,zA]++zr 30++[zB]++zr 45)) (zq zL (.cond zL zL)) (.cond (zq (.seq (some ([zN,zN,zA,zN,zA,zN,zA]++zr 41++[zB]++zr 34)) zL (.cond (zq zL zL) zL)) (zq (zq zL (.cond (zq zL zL) zL)) (zq zL zL))) zL)))))) (zq zL (zq zL zL)))))
def KO:Shape:=([zS,zI,zN,zN,zN,zS,zI]++zr 21)
def KP:List (Nat×Shape):=[(2,(zr 5++[zS]++zr 22))]
def KQ:bL:=(zq (zq zL (.cond zL zL)) (.seq (some ([zS,zI,zN,zN,zN,zS,zI]++zr 21)) (.block (zq zL (.cond zL zL))) zL))
def aaL:bL:=(zq zL (zq zL (zq (zq zL (.block (.loop KO KP KQ))) (zq zL zL))))
def KR:Shape:=([zN,zI,zN,zN,zN,zS,zI]++zr 39)
def KS:List (Nat×Shape):=[(2,([zN,zI,zN,zN,zN,zS,zI]++zr 39))]
def KT:bL:=(zq (.seq (some ([zN,zI,zN,zN,zN,zS,zI]++zr 23++[zB]++zr 15)) zL (.cond zL zL)) (.block (zq zL zL)))
def aaM:bL:=(zq zL (zq (zq zL (.cond (zq zL zL) zL)) (zq zL (zq zL (zq (.block (.loop KR KS KT)) (zq zL (zq zL zL)))))))
def KU:bL:=(zq zL (zq zL (zq zL (zq zL zL))))
def aaN:bL:=(zq zL (zq zL zL))
def KV:Shape:=([zT,zN,zN,zI]++zr 25)
def KW:List (Nat×Shape):=[(1,([zN,zN,zB]++zr 26)),(2,([zT]++zr 28))]
def KX:bL:=(zq (zq zL (.cond zL zL)) (zq (.block (.seq (some ([zT,zN,zN,zI]++zr 21++[zB,zN,zN,zN])) zL (.cond (zq zL zL) zL))) zL))
def aaO:bL:=(zq zL (zq (zq zL (.block (.loop KV KW KX))) (zq zL zL)))
def aaP:bL:=(zq zL (zq (zq zL (.block (zq zL (.cond (zq zL zL) (zq zL (.cond (zq zL zL) (zq zL (.cond (zq zL zL) (zq zL (.cond (zq zL zL) (zq zL (.cond (zq zL zL) (zq zL (.cond (zq zL zL) zL)))))))))))))) (zq zL zL)))
def KY:Shape:=[zT,some (false,[(.int .u8)]),zN,zN,zN,zI,zN,zN,zN,zN,zN,zN,zN,zN,zN,zN,zN]
def KZ:List (Nat×Shape):=[(1,([zN,zN,zN,zN,zB]++zr 12)),(2,(zr 17))]
def K0:bL:=(zq (zq zL (.cond zL zL)) (zq (.block (zq zL (.cond (zq zL zL) zL))) zL))
def aaQ:bL:=(zq zL (zq (zq zL (.block (.loop KY KZ K0))) (zq zL zL)))
def aaR:bL:=(zq zL (zq zL (zq (zq zL (.block (zq zL (.cond (zq zL zL) (zq zL (.cond (zq zL zL) (zq zL (.cond (zq zL zL) (zq zL (.cond (zq zL zL) (zq zL (.cond (zq zL zL) (zq zL (.cond (zq zL zL) zL)))))))))))))) (zq zL zL))))
def aaS:bL:=(zq zL (zq (zq zL (.block (zq zL (.cond (zq zL zL) (zq zL (.cond (zq zL zL) (.seq (some ([zN,zN,zN,zI,zN,zN,zN,zN,zB]++zr 22)) (zq zL (.cond zL (zq zL (.cond zL (zq zL (.cond zL zL)))))) (.cond (zq zL zL) (.seq (some ([zN,zN,zN,zI]++zr 9++[zB]++zr 17)) (zq zL (.cond zL (zq zL (.cond zL (zq zL (.cond zL (zq zL (.cond zL zL)))))))) (.cond (zq zL zL) (.seq (some ([zN,zN,zN,zI]++zr 15++[zB]++zr 11)) (zq zL (.cond zL zL)) (.cond (zq zL zL) (zq zL (.cond (zq zL zL) (.seq (some (zr 24++[zB]++zr 6)) (zq zL (.cond zL (zq zL (.cond zL (zq zL (.cond zL (zq zL (.cond zL (zq zL (.cond zL zL)))))))))) (.cond (zq zL zL) zL)))))))))))))))) (zq zL zL)))
def aaT:bL:=(zq zL (zq zL zL))
def aaU:bL:=(zq zL (zq zL zL))
def aaV:bL:=(zq zL (zq zL zL))
def aaW:bL:=(zq zL (zq zL zL))
def aaX:bL:=(zq zL (zq zL zL))
def Pk:List (Nat×bL):=[(3,a3),(4,a4),(5,a5),(6,a6),(7,a7),(8,a8),(9,a9),(10,nt),(11,yT),(12,yU),(13,my),(14,sY),(15,Ec),(16,ww),(17,a17),(18,nu),(19,a19),(20,Ob),(21,Oc),(22,Kh),(23,Od),(24,I9),(25,a25),(26,Pg),(27,Ph),(28,a28),(29,Sg),(30,A2),(31,a31),(32,GC),(33,a33),(34,xE),(35,a35),(36,EU),(37,a37),(38,A3),(39,a39),(40,Oe),(41,a41),(42,SN),(43,a43),(44,SS),(45,a45),(46,SX),(47,a47),(48,SY),(49,a49),(50,a50),(51,a51),(52,a52),(53,Tc),(54,a54),(55,Tg),(56,a56),(57,a57),(58,a58),(59,a59),(60,a60),(61,a61),(62,a62),(63,a63),(64,a64),(65,Tr),(66,a66),(67,a67),(68,a68),(69,a69),(70,a70),(71,a71),(72,a72),(73,a73),(74,a74),(75,a75),(76,a76),(77,a77),(78,Pj),(79,a79),(80,a80),(81,a81),(82,a82),(83,a83),(84,a84),(85,a85),(86,a86),(87,Wf),(88,a88),(89,a89),(90,a90),(91,a91),(92,a92),(93,a93),(94,a94),(95,a95),(96,a96),(97,a97),(98,a98),(99,a99),(100,aar),(101,aas),(102,aat),(103,aau),(104,aav),(105,aaw),(106,aax),(107,aay),(108,aaz),(109,aaA),(110,aaB),(111,aaC),(112,aaD),(113,aaE),(114,aaF),(115,aaG),(116,aaH),(117,aaI),(118,aaJ),(119,aaK),(120,aaL),(121,aaM),(122,KU),(123,aaN),(124,aaO),(125,aaP),(126,aaQ),(127,aaR),(128,aaS),(129,aaT),(130,aaU),(131,aaV),(132,aaW),(133,aaX)]
theorem aaY(s:ByteArray)(n:Int)(w:World):(callFunc 134 #[.string s,.int .u8 n]).run Tryz.prog w = .ok (.value (.int .i64 (firstIdx s n.toNat.toUInt8))) w:=by
 rw [run_callFunc_extern (e:=Extern.BytealgIndexByte.indexByte) Tryz.func134 (by kernel_rfl) (by kernel_rfl) (by kernel_rfl) (by kernel_rfl),run_indexByte_string]
 rfl
theorem afv:∀ f,yp f [134]=true->∀ (s:ByteArray) (n:Int) (w:World),(callFunc f #[.string s,.int .u8 n]).run Tryz.prog w = .ok (.value (.int .i64 (firstIdx s n.toNat.toUInt8))) w:=by
 intro f hf s n w
 rcases (Bool.or_eq_true _ _).mp hf with h|hf
 ·cases Nat.eq_of_beq_eq_true h;exact aaY s n w
 cases hf
noncomputable def Et(base:Nat):Env:=⟨Tryz.prog,tab,fns,Pk,base,[134],[(4,[(false,[.bool])])]⟩
theorem afw(base:Nat):dq (Et base):=⟨λt i h=>aam (t,i) (uW h),by kernel_rfl,by kernel_rfl,λf rs h=>aan (f,rs) (uW h),afv⟩
theorem EtP(base:Nat):(Et base).P=Tryz.prog:=by kernel_rfl
theorem EtA(base f:Nat):(Et base).an f=find Pk f:=by kernel_rfl
theorem EtB(base:Nat):(Et base).base=base:=by kernel_rfl
theorem aaZ{base f:Nat}{fn:Func}{an:bL}(hf:Tryz.prog.funcs[f]? = some fn)(ha:find Pk f=some an){args:List Value}{h:AH}{r:Value×AH}(hx:sS (Et base) (run (Et base)) aF an fn args h=some r):run (Et base) f args h=some r:=H_ (E:=Et base) (by rw [EtP];exact hf) (by rw [EtA];exact ha) hx
abbrev OB:=Option (Nat×az×AH)
abbrev OV:=Option (Value×AH)
noncomputable abbrev gH(base:Nat)(x:Shape)(an:bL)(p:List Nat)(f:Func)(e:List (Nat×Shape)):Body:=λl h=>lay x l λs=>aP (Et base) (run (Et base)) aF an (BH p (Ri f)) s h (nj x e)
theorem cZ{base f:Nat}{fn:Func}{an:bL}{args:List Value}{h:AH}{r:Value×AH}{x:OV}(hf:Tryz.prog.funcs[f]? = some fn)(hx:x=some r)(ha:find Pk f=some an:=by kernel_rfl)(he:sS (Et base) (run (Et base)) aF an fn args h=x:=by kernel_rfl):run (Et base) f args h=some r:=aaZ (an:=an) hf ha (he.trans hx)
abbrev dW(h:AH)(b o:Nat)(f:Int->Int->Int->Int->Int->ByteArray->Option R):Option R:=gI (cell h b o) λx0=>gI (cell h b (o+1)) λx1=>gI (cell h b ((o+1)+1)) λx2=>gI (cell h b (((o+1)+1)+1)) λx3=>gI (cell h b ((((o+1)+1)+1)+1)) λx4=>gT (cell h b (((((o+1)+1)+1)+1)+1)) λx5=>f x0 x1 x2 x3 x4 x5
abbrev bu(h:AH)(b o:Nat)(f:Int->Int->Int->Int->Int->ByteArray->Option Addr×Nat->Option R):Option R:=gI (cell h b o) λx0=>gI (cell h b (o+1)) λx1=>gI (cell h b ((o+1)+1)) λx2=>gI (cell h b (((o+1)+1)+1)) λx3=>gI (cell h b ((((o+1)+1)+1)+1)) λx4=>gT (cell h b (((((o+1)+1)+1)+1)+1)) λx5=>gL (cell h b ((((((o+1)+1)+1)+1)+1)+1)) λx6=>f x0 x1 x2 x3 x4 x5 x6
abbrev gV(h:AH)(b o:Nat)(f:Int->Int->Int->Int->ByteArray->Option Addr×Nat->Option R):Option R:=gI (cell h b o) λx0=>gI (cell h b (o+1)) λx1=>gI (cell h b ((o+1)+1)) λx2=>gI (cell h b (((o+1)+1)+1)) λx3=>gT (cell h b ((((o+1)+1)+1)+1)) λx4=>gL (cell h b (((((o+1)+1)+1)+1)+1)) λx5=>f x0 x1 x2 x3 x4 x5
abbrev aa0(h:AH)(b o:Nat)(f:Int->Int->Option Addr×Nat->Option R):Option R:=gI (cell h b o) λx0=>gI (cell h b (o+1)) λx1=>gL (cell h b ((o+1)+1)) λx2=>f x0 x1 x2
abbrev aZ(h:AH)(b o:Nat)(f:Int->Int->Option Addr×Nat->Option Addr×Nat->Option Addr×Nat->Option R):Option R:=gI (cell h b o) λx0=>gI (cell h b (o+1)) λx1=>gL (cell h b ((o+1)+1)) λx2=>gL (cell h b (((o+1)+1)+1)) λx3=>gL (cell h b ((((o+1)+1)+1)+1)) λx4=>f x0 x1 x2 x3 x4
abbrev aL(h:AH)(b o:Nat)(f:Int->Int->ByteArray->Option Addr×Nat->Option R):Option R:=gI (cell h b o) λx0=>gI (cell h b (o+1)) λx1=>gT (cell h b ((o+1)+1)) λx2=>gL (cell h b (((o+1)+1)+1)) λx3=>f x0 x1 x2 x3
abbrev ca(h:AH)(b o:Nat)(f:Option Addr×Nat->Option Addr×Nat->Int->Option Addr×Nat->Option R):Option R:=gL (cell h b o) λx0=>gL (cell h b (o+1)) λx1=>gI (cell h b ((o+1)+1)) λx2=>gL (cell h b (((o+1)+1)+1)) λx3=>f x0 x1 x2 x3
abbrev Ib(l:az)(f:Addr->Addr->Option R):Option R:=gA (ay l 0) λx0=>gA (ay (l.tail) 0) λx1=>f x0 x1
abbrev aa1(l:az)(f:Addr->Addr->Addr->Option R):Option R:=gA (ay l 0) λx0=>gA (ay (l.tail) 0) λx1=>gA (ay (l.tail.tail) 0) λx2=>f x0 x1 x2
abbrev EV(l:az)(f:Addr->Addr->Addr->Addr->Option R):Option R:=gA (ay l 0) λx0=>gA (ay (l.tail) 0) λx1=>gA (ay (l.tail.tail) 0) λx2=>gA (ay (l.tail.tail.tail) 0) λx3=>f x0 x1 x2 x3
abbrev BM(l:az)(f:Addr->Addr->Addr->Addr->Addr->Addr->Option R):Option R:=gA (ay l 0) λx0=>gA (ay (l.tail) 0) λx1=>gA (ay (l.tail.tail) 0) λx2=>gA (ay (l.tail.tail.tail) 0) λx3=>gA (ay (l.tail.tail.tail.tail) 0) λx4=>gA (ay (l.tail.tail.tail.tail.tail) 0) λx5=>f x0 x1 x2 x3 x4 x5
abbrev EW(l:az)(f:Addr->Addr->Addr->Addr->Addr->Addr->Addr->Bool->Option R):Option R:=gA (ay l 0) λx0=>gA (ay (l.tail) 0) λx1=>gA (ay (l.tail.tail) 0) λx2=>gA (ay (l.tail.tail.tail) 0) λx3=>gA (ay (l.tail.tail.tail.tail) 0) λx4=>gA (ay (l.tail.tail.tail.tail.tail) 0) λx5=>gA (ay (l.tail.tail.tail.tail.tail.tail) 0) λx6=>gB (ay (l.tail.tail.tail.tail.tail.tail.tail) 0) λx7=>f x0 x1 x2 x3 x4 x5 x6 x7
abbrev Pm(l:az)(f:Addr->Addr->Addr->Addr->Bool->Option R):Option R:=gA (ay l 0) λx0=>gA (ay (l.tail) 0) λx1=>gA (ay (l.tail.tail) 0) λx2=>gA (ay (l.tail.tail.tail) 0) λx3=>gB (ay (l.tail.tail.tail.tail) 0) λx4=>f x0 x1 x2 x3 x4
abbrev yV(l:az)(f:Addr->Addr->Addr->Bool->Option R):Option R:=gA (ay l 0) λx0=>gA (ay (l.tail) 0) λx1=>gA (ay (l.tail.tail) 0) λx2=>gB (ay (l.tail.tail.tail) 0) λx3=>f x0 x1 x2 x3
abbrev Uo(l:az)(f:Addr->Addr->Bool->Option R):Option R:=gA (ay l 0) λx0=>gA (ay (l.tail) 0) λx1=>gB (ay (l.tail.tail) 0) λx2=>f x0 x1 x2
abbrev Wg(l:az)(f:Addr->Addr->Int->Bool->Option R):Option R:=gA (ay l 0) λx0=>gA (ay (l.tail) 0) λx1=>gI (ay (l.tail.tail) 0) λx2=>gB (ay (l.tail.tail.tail) 0) λx3=>f x0 x1 x2 x3
abbrev K1(l:az)(f:Addr->Addr->Option Addr×Nat->Int->Int->Bool->Option R):Option R:=gA (ay l 0) λx0=>gA (ay (l.tail) 0) λx1=>gL (ay (l.tail.tail) 0) λx2=>gI (ay (l.tail.tail.tail) 0) λx3=>gI (ay (l.tail.tail.tail.tail) 0) λx4=>gB (ay (l.tail.tail.tail.tail.tail) 0) λx5=>f x0 x1 x2 x3 x4 x5
abbrev BN(l:az)(f:Addr->Addr->Option Addr×Nat->Int->Int->Option Addr×Nat->Int->Int->Bool->Option R):Option R:=gA (ay l 0) λx0=>gA (ay (l.tail) 0) λx1=>gL (ay (l.tail.tail) 0) λx2=>gI (ay (l.tail.tail.tail) 0) λx3=>gI (ay (l.tail.tail.tail.tail) 0) λx4=>gL (ay (l.tail.tail.tail.tail.tail) 0) λx5=>gI (ay (l.tail.tail.tail.tail.tail.tail) 0) λx6=>gI (ay (l.tail.tail.tail.tail.tail.tail.tail) 0) λx7=>gB (ay (l.tail.tail.tail.tail.tail.tail.tail.tail) 0) λx8=>f x0 x1 x2 x3 x4 x5 x6 x7 x8
abbrev Wh(l:az)(f:Addr->Bool->Option R):Option R:=gA (ay l 0) λx0=>gB (ay (l.tail) 0) λx1=>f x0 x1
abbrev Up(l:az)(f:Addr->Int->Bool->Option R):Option R:=gA (ay l 0) λx0=>gI (ay (l.tail) 0) λx1=>gB (ay (l.tail.tail) 0) λx2=>f x0 x1 x2
abbrev Wi(l:az)(f:Addr->Option Addr×Nat->Int->Int->Option R):Option R:=gA (ay l 0) λx0=>gL (ay (l.tail) 0) λx1=>gI (ay (l.tail.tail) 0) λx2=>gI (ay (l.tail.tail.tail) 0) λx3=>f x0 x1 x2 x3
abbrev BO(l:az)(f:Int->Addr->Addr->Addr->Addr->Addr->Addr->Addr->Bool->Option R):Option R:=gI (ay l 0) λx0=>gA (ay (l.tail) 0) λx1=>gA (ay (l.tail.tail) 0) λx2=>gA (ay (l.tail.tail.tail) 0) λx3=>gA (ay (l.tail.tail.tail.tail) 0) λx4=>gA (ay (l.tail.tail.tail.tail.tail) 0) λx5=>gA (ay (l.tail.tail.tail.tail.tail.tail) 0) λx6=>gA (ay (l.tail.tail.tail.tail.tail.tail.tail) 0) λx7=>gB (ay (l.tail.tail.tail.tail.tail.tail.tail.tail) 0) λx8=>f x0 x1 x2 x3 x4 x5 x6 x7 x8
abbrev yW(l:az)(f:Int->Addr->Addr->Addr->Addr->Addr->Addr->Addr->Int->Bool->Option R):Option R:=gI (ay l 0) λx0=>gA (ay (l.tail) 0) λx1=>gA (ay (l.tail.tail) 0) λx2=>gA (ay (l.tail.tail.tail) 0) λx3=>gA (ay (l.tail.tail.tail.tail) 0) λx4=>gA (ay (l.tail.tail.tail.tail.tail) 0) λx5=>gA (ay (l.tail.tail.tail.tail.tail.tail) 0) λx6=>gA (ay (l.tail.tail.tail.tail.tail.tail.tail) 0) λx7=>gI (ay (l.tail.tail.tail.tail.tail.tail.tail.tail) 0) λx8=>gB (ay (l.tail.tail.tail.tail.tail.tail.tail.tail.tail) 0) λx9=>f x0 x1 x2 x3 x4 x5 x6 x7 x8 x9
abbrev EX(l:az)(f:Int->Addr->Addr->Addr->Addr->Addr->Addr->Bool->Option R):Option R:=gI (ay l 0) λx0=>gA (ay (l.tail) 0) λx1=>gA (ay (l.tail.tail) 0) λx2=>gA (ay (l.tail.tail.tail) 0) λx3=>gA (ay (l.tail.tail.tail.tail) 0) λx4=>gA (ay (l.tail.tail.tail.tail.tail) 0) λx5=>gA (ay (l.tail.tail.tail.tail.tail.tail) 0) λx6=>gB (ay (l.tail.tail.tail.tail.tail.tail.tail) 0) λx7=>f x0 x1 x2 x3 x4 x5 x6 x7
abbrev xF(l:az)(f:Int->Addr->Bool->Option R):Option R:=gI (ay l 0) λx0=>gA (ay (l.tail) 0) λx1=>gB (ay (l.tail.tail) 0) λx2=>f x0 x1 x2
abbrev Pn(l:az)(f:Int->Bool->Option R):Option R:=gI (ay l 0) λx0=>gB (ay (l.tail) 0) λx1=>f x0 x1
abbrev EY(l:az)(f:Int->Int->Addr->Addr->Addr->Addr->Int->Bool->Option R):Option R:=gI (ay l 0) λx0=>gI (ay (l.tail) 0) λx1=>gA (ay (l.tail.tail) 0) λx2=>gA (ay (l.tail.tail.tail) 0) λx3=>gA (ay (l.tail.tail.tail.tail) 0) λx4=>gA (ay (l.tail.tail.tail.tail.tail) 0) λx5=>gI (ay (l.tail.tail.tail.tail.tail.tail) 0) λx6=>gB (ay (l.tail.tail.tail.tail.tail.tail.tail) 0) λx7=>f x0 x1 x2 x3 x4 x5 x6 x7
abbrev K2(l:az)(f:Int->Int->Addr->Addr->Addr->Bool->Option R):Option R:=gI (ay l 0) λx0=>gI (ay (l.tail) 0) λx1=>gA (ay (l.tail.tail) 0) λx2=>gA (ay (l.tail.tail.tail) 0) λx3=>gA (ay (l.tail.tail.tail.tail) 0) λx4=>gB (ay (l.tail.tail.tail.tail.tail) 0) λx5=>f x0 x1 x2 x3 x4 x5
abbrev yX(l:az)(f:Int->Int->Addr->Addr->Bool->Option R):Option R:=gI (ay l 0) λx0=>gI (ay (l.tail) 0) λx1=>gA (ay (l.tail.tail) 0) λx2=>gA (ay (l.tail.tail.tail) 0) λx3=>gB (ay (l.tail.tail.tail.tail) 0) λx4=>f x0 x1 x2 x3 x4
abbrev BP(l:az)(f:Int->Int->Addr->Addr->Bool->Addr->Addr->Bool->Bool->Option R):Option R:=gI (ay l 0) λx0=>gI (ay (l.tail) 0) λx1=>gA (ay (l.tail.tail) 0) λx2=>gA (ay (l.tail.tail.tail) 0) λx3=>gB (ay (l.tail.tail.tail.tail) 0) λx4=>gA (ay (l.tail.tail.tail.tail.tail) 0) λx5=>gA (ay (l.tail.tail.tail.tail.tail.tail) 0) λx6=>gB (ay (l.tail.tail.tail.tail.tail.tail.tail) 0) λx7=>gB (ay (l.tail.tail.tail.tail.tail.tail.tail.tail) 0) λx8=>f x0 x1 x2 x3 x4 x5 x6 x7 x8
abbrev Ic(l:az)(f:Int->Int->Addr->Addr->Bool->Addr->Bool->Option R):Option R:=gI (ay l 0) λx0=>gI (ay (l.tail) 0) λx1=>gA (ay (l.tail.tail) 0) λx2=>gA (ay (l.tail.tail.tail) 0) λx3=>gB (ay (l.tail.tail.tail.tail) 0) λx4=>gA (ay (l.tail.tail.tail.tail.tail) 0) λx5=>gB (ay (l.tail.tail.tail.tail.tail.tail) 0) λx6=>f x0 x1 x2 x3 x4 x5 x6
abbrev K3(l:az)(f:Int->Int->Addr->Bool->Option R):Option R:=gI (ay l 0) λx0=>gI (ay (l.tail) 0) λx1=>gA (ay (l.tail.tail) 0) λx2=>gB (ay (l.tail.tail.tail) 0) λx3=>f x0 x1 x2 x3
abbrev Po(l:az)(f:Int->Int->Addr->Int->Bool->Option R):Option R:=gI (ay l 0) λx0=>gI (ay (l.tail) 0) λx1=>gA (ay (l.tail.tail) 0) λx2=>gI (ay (l.tail.tail.tail) 0) λx3=>gB (ay (l.tail.tail.tail.tail) 0) λx4=>f x0 x1 x2 x3 x4
abbrev Ie(l:az)(f:Option Addr×Nat->Int->Addr->Addr->Addr->Addr->Bool->Option R):Option R:=gL (ay l 0) λx0=>gI (ay (l.tail) 0) λx1=>gA (ay (l.tail.tail) 0) λx2=>gA (ay (l.tail.tail.tail) 0) λx3=>gA (ay (l.tail.tail.tail.tail) 0) λx4=>gA (ay (l.tail.tail.tail.tail.tail) 0) λx5=>gB (ay (l.tail.tail.tail.tail.tail.tail) 0) λx6=>f x0 x1 x2 x3 x4 x5 x6
abbrev Uq(l:az)(f:Option Addr×Nat->Int->Bool->Option R):Option R:=gL (ay l 0) λx0=>gI (ay (l.tail) 0) λx1=>gB (ay (l.tail.tail) 0) λx2=>f x0 x1 x2
abbrev aa2(l:az)(f:Option Addr×Nat->Int->Int->Option R):Option R:=gL (ay l 0) λx0=>gI (ay (l.tail) 0) λx1=>gI (ay (l.tail.tail) 0) λx2=>f x0 x1 x2
abbrev K4(l:az)(f:Option Addr×Nat->Int->Int->Bool->Option R):Option R:=gL (ay l 0) λx0=>gI (ay (l.tail) 0) λx1=>gI (ay (l.tail.tail) 0) λx2=>gB (ay (l.tail.tail.tail) 0) λx3=>f x0 x1 x2 x3
abbrev K5(l:az)(f:Option Addr×Nat->Int->Option Addr×Nat->Int->Int->Bool->Option R):Option R:=gL (ay l 0) λx0=>gI (ay (l.tail) 0) λx1=>gL (ay (l.tail.tail) 0) λx2=>gI (ay (l.tail.tail.tail) 0) λx3=>gI (ay (l.tail.tail.tail.tail) 0) λx4=>gB (ay (l.tail.tail.tail.tail.tail) 0) λx5=>f x0 x1 x2 x3 x4 x5
abbrev Pp(l:az)(f:Option Addr×Nat->Option Addr×Nat->Int->Int->Bool->Option R):Option R:=gL (ay l 0) λx0=>gL (ay (l.tail) 0) λx1=>gI (ay (l.tail.tail) 0) λx2=>gI (ay (l.tail.tail.tail) 0) λx3=>gB (ay (l.tail.tail.tail.tail) 0) λx4=>f x0 x1 x2 x3 x4
abbrev K6(l:az)(f:Option Addr->Addr->Int->Bool->Option R):Option R:=gP (ay l 0) λx0=>gA (ay (l.tail) 0) λx1=>gI (ay (l.tail.tail) 0) λx2=>gB (ay (l.tail.tail.tail) 0) λx3=>f x0 x1 x2 x3
abbrev Pq(l:az)(f:Option Addr->Addr->Option Addr×Nat->Int->Bool->Option R):Option R:=gP (ay l 0) λx0=>gA (ay (l.tail) 0) λx1=>gL (ay (l.tail.tail) 0) λx2=>gI (ay (l.tail.tail.tail) 0) λx3=>gB (ay (l.tail.tail.tail.tail) 0) λx4=>f x0 x1 x2 x3 x4
abbrev K7(l:az)(f:Option Addr->Int->Addr->Bool->Option R):Option R:=gP (ay l 0) λx0=>gI (ay (l.tail) 0) λx1=>gA (ay (l.tail.tail) 0) λx2=>gB (ay (l.tail.tail.tail) 0) λx3=>f x0 x1 x2 x3
abbrev K8(l:az)(f:Option Addr->Int->Addr->Option Addr×Nat->Option R):Option R:=gP (ay l 0) λx0=>gI (ay (l.tail) 0) λx1=>gA (ay (l.tail.tail) 0) λx2=>gL (ay (l.tail.tail.tail) 0) λx3=>f x0 x1 x2 x3
abbrev Pr(l:az)(f:Option Addr->Int->Int->Int->Bool->Option R):Option R:=gP (ay l 0) λx0=>gI (ay (l.tail) 0) λx1=>gI (ay (l.tail.tail) 0) λx2=>gI (ay (l.tail.tail.tail) 0) λx3=>gB (ay (l.tail.tail.tail.tail) 0) λx4=>f x0 x1 x2 x3 x4
abbrev BQ(l:az)(f:Option Addr->Int->Int->Int->Int->Bool->Option R):Option R:=gP (ay l 0) λx0=>gI (ay (l.tail) 0) λx1=>gI (ay (l.tail.tail) 0) λx2=>gI (ay (l.tail.tail.tail) 0) λx3=>gI (ay (l.tail.tail.tail.tail) 0) λx4=>gB (ay (l.tail.tail.tail.tail.tail) 0) λx5=>f x0 x1 x2 x3 x4 x5
abbrev afx(l:List Value)(f:Int->Bool->Option R):Option R:=gI (l[0]?) λx0=>gB (l[1]?) λx1=>f x0 x1
abbrev K9(l:List Value)(f:Int->Int->Int->Int->Int->ByteArray->Option R):Option R:=gI (l[0]?) λx0=>gI (l[1]?) λx1=>gI (l[2]?) λx2=>gI (l[3]?) λx3=>gI (l[4]?) λx4=>gT (l[5]?) λx5=>f x0 x1 x2 x3 x4 x5
abbrev jm(l:List Value)(f:Int->Int->Int->Int->Int->ByteArray->Option Addr×Nat->Option R):Option R:=gI (l[0]?) λx0=>gI (l[1]?) λx1=>gI (l[2]?) λx2=>gI (l[3]?) λx3=>gI (l[4]?) λx4=>gT (l[5]?) λx5=>gL (l[6]?) λx6=>f x0 x1 x2 x3 x4 x5 x6
abbrev K_(l:List Value)(f:Int->Int->Int->Int->ByteArray->Option Addr×Nat->Option R):Option R:=gI (l[0]?) λx0=>gI (l[1]?) λx1=>gI (l[2]?) λx2=>gI (l[3]?) λx3=>gT (l[4]?) λx4=>gL (l[5]?) λx5=>f x0 x1 x2 x3 x4 x5
abbrev gm(l:List Value)(f:Int->Int->Option Addr×Nat->Option Addr×Nat->Option Addr×Nat->Option R):Option R:=gI (l[0]?) λx0=>gI (l[1]?) λx1=>gL (l[2]?) λx2=>gL (l[3]?) λx3=>gL (l[4]?) λx4=>f x0 x1 x2 x3 x4
abbrev cF(l:List Value)(f:Int->Int->ByteArray->Option Addr×Nat->Option R):Option R:=gI (l[0]?) λx0=>gI (l[1]?) λx1=>gT (l[2]?) λx2=>gL (l[3]?) λx3=>f x0 x1 x2 x3
abbrev mQ(l:List Value)(f:Option Addr×Nat->Option Addr×Nat->Int->Option Addr×Nat->Option R):Option R:=gL (l[0]?) λx0=>gL (l[1]?) λx1=>gI (l[2]?) λx2=>gL (l[3]?) λx3=>f x0 x1 x2 x3
end Go.Proofs.YtkdenmdijdmnjaaGreat.Am
