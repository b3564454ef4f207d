import Derived.Lib.LaidIn
import Derived.MakeChecks
import Derived.Stop.LaidErr
import Derived.Shelf.Vars
import Derived.Test.YthbiheckeoknlaaGreatDoorPp07
set_option linter.unusedSimpArgs false
set_option linter.unusedVariables false
set_option linter.defProp false
set_option maxRecDepth 100000
namespace Go.Aw.D
open Go.Aw Go.RowKit Go.Proofs Go.Proofs.YthbiheckeoknlaaGreatDoor Go.WideShapes Go.ChangeShapes
def An:List (String×DataW Unit):=[("strconv.ErrSyntax",Go.Proofs.YthbiheckeoknlaaGreatDoor.Rows.laid_strconv_ErrSyntax),("strconv.ErrRange",Go.Proofs.YthbiheckeoknlaaGreatDoor.Rows.laid_strconv_ErrRange),("internal/strconv.uint64pow10",Go.Proofs.YthbiheckeoknlaaGreatDoor.Rows.laid_internal_strconv_uint64pow10),("math/bits.deBruijn32tab",Go.Proofs.YthbiheckeoknlaaGreatDoor.Rows.laid_math_bits_deBruijn32tab),("math/bits.deBruijn64tab",Go.Proofs.YthbiheckeoknlaaGreatDoor.Rows.laid_math_bits_deBruijn64tab),("unicode/utf8.first",Go.Proofs.YthbiheckeoknlaaGreatDoor.Rows.laid_unicode_utf8_first),("unicode/utf8.acceptRanges",Go.Proofs.YthbiheckeoknlaaGreatDoor.Rows.laid_unicode_utf8_acceptRanges)]
theorem P0:(Go.Proofs.YthbiheckeoknlaaGreatDoor.Rows.laid_math_bits_deBruijn64tab:DataW Unit)=Lib.tabData .u8 (Lib.deBruijn64tab.map fun z:Nat=>(z:Int)):=by kernel_rfl
theorem Pm:(Go.Proofs.YthbiheckeoknlaaGreatDoor.Rows.laid_internal_strconv_uint64pow10:DataW Unit)=Lib.tabData .u64 Lib.pow10Tab:=by kernel_rfl
theorem S3{W:World}(hsh:W.ShapedOpen Tryz.prog):Lm (fB W 0):=by
 have h0:((begin Tryz.prog (fun _ _=>0) default).world.heap[(0:Nat)]?).bind Obj.row?=some (#[.int .i64 0],3):=by kernel_rfl
 have hg:(0:Nat)<Tryz.prog.globals.size:=by decide +kernel
 obtain⟨m,hm⟩:=cell_of_shapedOpen_int hsh hg h0 rfl (by kernel_rfl) (by kernel_rfl) Tryz.underlying3;obtain⟨cs,hh,hs,_⟩:=hsh.1 _ _ _ hg h0;have hs1:cs.size=1:=hs;refine⟨m,?_⟩;simp only[World.cell?,hh]at hm;unfold fB;rw[hh];have h2:cs[0]?=some (.int .i64 m):=by simpa using hm
 have hcs:cs=#[.int .i64 m]:=by
  refine Array.ext hs1 fun i hi1 hi2=>?_
  have hi:i=0:=by omega
  subst hi;have:=(Array.getElem?_eq_some_iff.1 h2).2;simpa using this
 show some cs=_;rw[hcs]
theorem Tj{W:World}(h0:laidMet Tryz.prog An W):LJ (fB W 2):=by
 have hrow:∀u,Tryz.prog.typeName? 3 u=some "*errors.errorString" → u=372:=fun u h=>typeName_ptr_named (nm:="errors.errorString") (by kernel_rfl) (by kernel_rfl) (by decide) u h
 obtain⟨a0,s0,hv,_⟩:=laid_sentinel (g:=2) (laidMet.tail h0) (by kernel_rfl) (by kernel_rfl) Tryz.underlying149 hrow Tryz.underlying372 Tryz.underlying374 rfl rfl Tryz.underlying9 (by kernel_rfl) (by kernel_rfl);unfold World.var? at hv;rw[show Tryz.prog.globalNamed "strconv.ErrRange" = some 2 by kernel_rfl]at hv;exact⟨_,hv,.inr ⟨_,_,rfl⟩⟩
theorem MW{W:World}(h:laidMetH Tryz.prog An W)(hsh:W.ShapedOpen Tryz.prog):FC W:=by
 have h0:laidMet Tryz.prog An W:=(Go.MakeChecks.laidMetH_plain Tryz.prog An W (by kernel_rfl))▸h;have h1:=laidMet.tail (laidMet.tail h0);have h2:=laidMet.tail (laidMet.tail h1);rw[Pm]at h1;rw[P0]at h2;have b:=Lib.tabIs_of_head (g:=5) (by kernel_rfl) (by kernel_rfl) (t:=436) (e:=5) (n:=64) Tryz.underlying436 Tryz.underlying5 (by kernel_rfl) (by kernel_rfl) h2;have p:=Lib.tabIs_of_head (g:=3) (by kernel_rfl) (by kernel_rfl) (t:=304) (e:=256) (n:=20) Tryz.underlying304 Tryz.underlying256 (by kernel_rfl) (by kernel_rfl) h1;unfold Lib.TabIs World.var? at b p;rw[show Tryz.prog.globalNamed "math/bits.deBruijn64tab" = some 5 by kernel_rfl]at b;rw[show Tryz.prog.globalNamed "internal/strconv.uint64pow10" = some 3 by kernel_rfl]at p;intro t ht;simp only[Ae,List.mem_cons,List.not_mem_nil,or_false]at ht;rcases ht with rfl|rfl|rfl|rfl
 · exact p
 · show _=some ET;have:ET=((Lib.deBruijn64tab.map fun z:Nat=>(z:Int)).map fun z=>Value.int .u8 z).toArray:=by simp[ET]
   rw[this];exact b
 · exact S3 hsh
 · exact Tj h0
end Go.Aw.D
