import Derived.WalkKit
import Derived.BigCall
import Derived.Deep.LoopGhost
import Derived.Deep.DeepFit
import Derived.Lib.SmallJoins
import Derived.Lib.ItoaMem
import Derived.Test.YtgncgpcpbadfnaaGreatDoorVc07
set_option linter.unusedSimpArgs false
set_option linter.unusedVariables false
set_option linter.defProp false
set_option maxRecDepth 100000
namespace Go.Proofs.YtgncgpcpbadfnaaGreatDoor
open Go.Aw Go.Aw.D Go.Proofs Ty
namespace Nu
open Go.Proofs.Tryz
open Go.Nu Go.RowKit Go.Sort
def tX{T e:TypeId}{B b:Nat}{bs:List Value}{w w':World}(h:Lib.IsBuilder T e B b bs w)(F:Below w.heap.size w w'):Lib.IsBuilder T e B b bs w':=by
 have A:∀p,Lib.BuilderAt T e B b p bs w->Lib.BuilderAt T e B b p bs w':=by
  rintro p ⟨h1,v,J,I,M⟩;refine⟨h1,v,?_,⟨I.1,?_⟩,M⟩
  ·rw[F.block b (Array.getElem?_eq_some_iff.1 J).1];exact J
  ·rcases I.2 with O|⟨g,cap,cur,U,X,E,Y⟩
   ·exact .inl O
   ·exact .inr ⟨g,cap,cur,U,X,by rw[F.block g (Array.getElem?_eq_some_iff.1 E).1];exact E,Y⟩
 exact h.imp (A _) (A _)
def mR{w:World}(k:Nat)(os:Array Obj):Below w.heap.size w (grow (w.drewN k) os):=by
 refine⟨rfl,rfl,rfl,?_,fun i A=>?_⟩
 ·simp[grow]
 ·simp only[grow,World.heap_drewN];rw[Array.getElem?_append_left A]
def JT{T e:TypeId}{B b:Nat}{l:List UInt8}{s:ByteArray}{w:World}(h:Lib.BuilderAt T e B b (.pointer (some ⟨b,0,none⟩)) (Lib.byteCells l++Lib.strCells s) w):Lib.IsBuilder T e B b (Lib.byteCells (l++bl s)) w:=by rw[Lib.strCells_eq,<-Lib.byteCells_append]at h;exact .inr h
def uE(B b:Nat)(l:List UInt8)(s:ByteArray)(w:World)(h:Lib.IsBuilder 318 5 B b (Lib.byteCells l) w)(A:l.length+s.size<=140737488355328)(E:B<=w.heap.size):
  Calls prog 230 #[.pointer (some ⟨b,0,none⟩),.string s] w fun e w'=>e=.returned (.tuple #[.int .i64 s.size,.nilIface])/\Lib.IsBuilder 318 5 B b (Lib.byteCells (l++bl s)) w'/\Below B w w':=
 (Any.Builder_WriteString (P:=prog) (ρ:=Tryz.lays105_ren) { Tryz.lays105 with } Tryz.Builder_Extra_105 B b (Lib.byteCells l) s w h (by rw[Lib.byteCells_length];exact A) E).mono fun e w' ⟨J,F,I⟩=>⟨J,JT F,I⟩
def acS{l:List Nat}(h:Lim bas l)(K:Nat)(A:l.length<=K)(h1:1<=K):(Lib.decDigits (ofL bas l)).length<=9*K:=by refine(rX (by omega)).2 (Xbi (oQ (by decide) h) ?_);rw[show bas=10^9 from rfl,<-Nat.pow_mul];exact Xau (by omega) (by omega)
def Hq(n k:Nat):List UInt8:=Lib.decDigits (ofL bas ((bQ bas n).drop k))
def UH{n k x:Nat}(E:k+1<(bQ bas n).length)(A:(bQ bas n)[k]?=some x):Hq n k=Hq n (k+1)++aiR x:=by have h1:=dT (b:=bas) (by decide) n x (Xac A);unfold Hq;rw[yO bas A];exact YG h1 (ZH (by decide) E)
set_option maxHeartbeats 1600000 in
theorem L6 (n:Nat) (w:World) (b o c:Nat) (ac:(bQ bas n).length<=1048576) (ab:0<(bQ bas n).length)
    (hz:∀(i x:Nat),(bQ bas n)[i]?=some x->w.cell? ⟨b,o+i,none⟩=some (.int .i64 x)) (hb:b<w.heap.size)
    (J:Lib.TabIs prog w "internal/strconv.uint64pow10" .u64 Lib.pow10Tab):
    Calls prog 202 #[.slice (some ⟨b,o,none⟩) (bQ bas n).length c] w fun e w'=>e=.returned (.string (dec n))/\Below w.heap.size w w':=by
  obtain⟨L,hL⟩:∃L,(bQ bas n).length=L:=⟨_,rfl⟩
  have h0:Lib.IsBuilder 318 5 w.heap.size w.heap.size (Lib.byteCells []) (w.alloc (.cells #[.pointer none,.slice none 0 0] 318)):=Lib.fresh_isBuilder 318 5 w
  have b0:Below w.heap.size w (w.alloc (.cells #[.pointer none,.slice none 0 0] 318)):=(Below.refl _ w).alloc (Xag _) _
  obtain⟨Y,O⟩:=aM (show L-1<(bQ bas n).length by omega)
  have al:=hz _ _ O
  have T:=dT (b:=bas) (by decide) n Y (Xac O)
  have T:Y<1000000000:=T
  rw[hL]
  rw[hL]at ab ac
  have am:((L:Int) == 0)=false:=by rw[beq_eq_false_iff_ne];omega
  go_enter func202,Tryz.ntmps202
  go_wp2_with (go_at_call 166;refine(Tryz.strconv_Itoa (Y:Int) (by omega) (by omega) _ (Lib.tabIs_alloc J _)).mono ?_)
  rintro e W1 ⟨rfl,k,os,rfl⟩
  have M:Below w.heap.size w (grow ((w.alloc (.cells #[.pointer none,.slice none 0 0] 318)).drewN k) os):=b0.trans ⟨rfl,rfl,rfl,(mR k os).size,fun i hi=>(mR k os).block i (Xbi hi b0.size)⟩
  have h1:=tX h0 (mR k os)
  generalize grow _ os=W1 at *
  have hI:∀x:Nat,(Lib.itoa (x:Int))=Lib.decDigits x:=Lib.itoa_nonneg
  have ae:∀x:Nat,x<1000000000->(Lib.decDigits x).length<=9:=fun x hx=>(rX (k:=9) (by omega)).2 hx
  have F:Hq n (L-1)=Lib.decDigits Y:=by
    unfold Hq
    rw[yO bas O,show L-1+1=L by omega,<-hL,Xbp]
    rfl
  have aa:(⟨(Lib.itoa (Y:Int)).toArray⟩:ByteArray).size<=9:=by rw[<-fL,kK,hI];exact ae _ T
  have X:=uE w.heap.size w.heap.size [] _ W1 h1 (by simp only[List.length_nil];omega:([]:List UInt8).length+(⟨(Lib.itoa (Y:Int)).toArray⟩:ByteArray).size<=_) M.size
  go_wp2_with (go_at_call 230;refine X.mono ?_)
  rintro e W2 ⟨rfl,h2,b2⟩
  rw[Xbl,kK,hI,<-F]at h2
  have b2:=M.trans b2
  have ai:∀k,(Hq n k).length<=9437184:=fun k=>by
    have:=acS ((dT (b:=bas) (by decide) n).drop k) 1048576 (by rw[List.length_drop,hL];omega) (by omega)
    unfold Hq
    omega
  clear h0 b0 h1 M aa F
  go_wp2
  go_loopg [4] (L-1) (fun g s4 wx=>∃k:Nat,k<=L-1/\g=k/\s4=.int .i64 ((k:Int)-1)/\Lib.IsBuilder 318 5 w.heap.size w.heap.size (Lib.byteCells (Hq n k)) wx/\Below w.heap.size w wx)
  case atStart=>exact⟨L-1,Xag _,rfl,by congr 1;omega,h2,b2⟩
  clear h2 b2
  case round=>
    obtain⟨_,hk,rfl,rfl,hB,A⟩:=hrel
    cases gk with
    | zero=>
      have aj:Hq n 0=Lib.decDigits n:=by unfold Hq;rw[Xbo,eG (by decide)]
      rw[aj]at hB
      have cS:=Tryz.Builder_String_any w.heap.size w.heap.size (Lib.decDigits n) wr hB A.size
      go_wp2_with (go_at_call 232;refine cS.mono ?_)
      rintro e W3 ⟨rfl,E⟩
      go_wp2
      go_ret
      exact⟨rfl,A.trans E⟩
    | succ i=>
      obtain⟨x,hx⟩:=aM (show i<(bQ bas n).length by omega)
      have hl:=(A.cell hb).trans (hz i x hx)
      have ah:x<1000000000:=dT (b:=bas) (by decide) n x (Xac hx)
      have ag:(((i+1:Nat):Int)-1)=(i:Int):=by omega
      have U:=UH (n:=n) (by omega) hx
      have af:Lib.TabIs prog wr "internal/strconv.uint64pow10" .u64 Lib.pow10Tab:=Go.Joins.tab_stays (g:=1) (by kernel_rfl) J A (Xag _)
      have an:=ai (i+1)
      rw[ag]
      go_wp2_with (go_at_call 166;refine(Tryz.strconv_Itoa (x:Int) (by omega) (by omega) _ af).mono ?_)
      rintro e W1 ⟨rfl,k,os,rfl⟩
      have M:Below w.heap.size w (grow (wr.drewN k) os):=A.trans ⟨rfl,rfl,rfl,(mR k os).size,fun i hi=>(mR k os).block i (Xbi hi A.size)⟩
      have h1:=tX hB (mR k os)
      clear hB af
      generalize grow _ os=W1 at *
      have ak:=ae x ah
      rw[hI x]
      go_wp2_with (go_at_call 231;fail)
      have e9:(9:Int)-((Lib.decDigits x).length:Nat)=((9-(Lib.decDigits x).length:Nat):Int):=by omega
      rw[e9]
      refine(Tryz.strings_Repeat ⟨#[48]⟩ (9-(Lib.decDigits x).length) W1 (by omega) (by show 1*_<=_;omega)).mono ?_
      rintro e W3 ⟨rfl,E⟩
      have h3:=tX h1 E
      have E:Below w.heap.size w W3:=M.trans ⟨E.os,E.tape,E.output,E.size,fun i hi=>E.block i (Xbi hi M.size)⟩
      have I:bl ⟨(Lib.repeatL (⟨#[48]⟩:ByteArray).data.toList (9-(Lib.decDigits x).length)).toArray⟩=List.replicate (9-(Lib.decDigits x).length) 48:=by
        rw[kK]
        have:=Lib.repeatL_replicate 48 1 (9-(Lib.decDigits x).length)
        rwa [Nat.mul_one]at this
      clear h1 M
      generalize (⟨(Lib.repeatL (⟨#[48]⟩:ByteArray).data.toList (9-(Lib.decDigits x).length)).toArray⟩:ByteArray)=Z at *
      have hZ:Z.size<=9:=by rw[<-fL,I,Xbv];omega
      have X:=uE w.heap.size w.heap.size _ Z W3 h3 (by omega) E.size
      go_wp2_with (go_at_call 230;refine X.mono ?_)
      rintro e W4 ⟨rfl,h4,b4⟩
      have b4:=E.trans b4
      clear X h3 E
      have hX:(⟨(Lib.decDigits x).toArray⟩:ByteArray).size<=9:=by rw[<-fL,kK];exact ak
      have X:=uE w.heap.size w.heap.size _ ⟨(Lib.decDigits x).toArray⟩ W4 h4 (by rw[Xaf,fL];omega) b4.size
      go_wp2_with (go_at_call 230;refine X.mono ?_)
      rintro e W5 ⟨rfl,h5,b5⟩
      have b5:=b4.trans b5
      rw[Xar,I,kK]at h5
      go_wp2
      go_roundg i
      case measure=>omega
      case rel=>exact⟨i,by omega,rfl,rfl,by rw[U];exact h5,b5⟩
def Ml{S:Sg}{w:World}{b:Nat}:∀{l:List Nat} {o sz:Nat},0<sz->gI S w b sz o (l.map kE)->∀(i x:Nat),l[i]?=some x->w.cell? ⟨b,o+i,none⟩=some (.int .i64 x)
 | [],_,_,_,_,i,x,h=>by simp at h
 | y::l,o,sz,hp,h,i,x,hx=>by
  simp only[Xaw,gI]at h;obtain⟨h1,E,F⟩:=h;have h1:sz=1:=h1.symm;subst h1;cases i with
  | zero=>simp only[List.getElem?_cons_zero,Option.some.injEq]at hx;subst hx;simp only[kE,cM]at E;obtain⟨⟨u,I,_,A⟩,_⟩:=E;simp only[rep]at A;subst A;exact I
  | succ i=>
   have:=Ml (by omega) F i x (by simpa using hx)
   rwa [Nat.add_assoc,Nat.add_comm 1 i]at this
def YU{w:World}(h:∀t∈VV,rS w t.1=some t.2):Lib.TabIs prog w "internal/strconv.uint64pow10" .u64 Lib.pow10Tab:=by have h1:=h (1,W9) (by simp[VV]);unfold Lib.TabIs World.var?;rw[show prog.globalNamed "internal/strconv.uint64pow10" = some 1 by kernel_rfl];exact h1
def Fo(n:Nat)(F:(bQ bas n).length<=1048576):PC prog 202 [nl n] (str (dec n)):=by
 by_cases h0:n=0
 ·subst h0;rw[KI];refine pcd func202 rfl rfl ?_;simp only[go_sem];refine aA (fun h=>?_) (fun h=>by simp at h);simp only[go_sem];refine cS ?_;refine mU ?_;rw[nN,Lib.decDigits_one (by omega)];rfl
 ·intro S w vals I hf Z;simp only[bC,rep]at Z;obtain⟨y,t,rfl,⟨ad,m,c,rfl,Y,e2,e3,O⟩,rfl⟩:=Z;have J:bQ bas n≠[]:=fun e=>h0 ((vG (by decide)).1 e)
  have E:=List.length_pos_iff.2 J;rw[Xaa]at Y;rcases O with O|⟨b,o,sz,rfl,T,U,M⟩
  ·simp only[List.map_eq_nil_iff]at O;exact absurd O J
  ·subst Y;refine(L6 n w b o c F E (Ml U M) (I.fz_lt b (I.ro_fz b T)) (YU fun t ht=>(I.tabs t ht).2)).mono fun e w' ⟨he,A⟩=>?_
   exact⟨_,_,bS,S,he,rfl,I.after A.size fun k X=>A.block k X,by simp only[rep],I.grow A.os A.tape A.output A.size fun k X=>A.block k X,eV.refl _ _⟩
def Cr(n:Nat)(E:(bQ bas n).length<=1048576):PC prog 195 [nl n] (.tup [str (szN n).1,int (szN n).2]):=by
 refine pcd func195 rfl rfl ?_;simp only[go_sem];refine aP (Fo n E) ?_;simp only[go_sem];have A:=iK n;refine aA (fun h=>?_) (fun h=>?_)
 ·have h:4096<(dec n).size:=by simp at h;omega
  simp only[go_sem];rw[show szN n=(emp,4)from if_neg fun e=>by have:=A.2 e;omega];exact .refl _
 ·have h:(dec n).size<=4096:=by simp at h;omega
  simp only[go_sem];rw[C3 (A.1 h)];exact .refl _
end Nu
namespace Nu
open Go.Proofs.Tryz
open Go.Nu
def Q0{n K:Nat}(h:n<dE)(A:adE<=9*K):(bQ bas n).length<=K:=by refine nO (b:=bas) (k:=K) (by decide) (Xbi h ?_);rw[show bas=10^9 from rfl,<-Nat.pow_mul];exact Xau (show 0<10 by omega) A
def kQ{n:Nat}(h:n<dE):(bQ bas n).length<=457:=Q0 h (by decide)
def YP{H:aH}{o l:List Nat}(h:l=o):ConvE H (cU o).es (l.map kE):=h▸ConvE.refl _
def I3:∀l:List Nat,oH l=l.take (oH l).length
 | []=>rfl
 | x::l=>by
  have ih:=I3 l;rw[oH];split
  ·split <;> rfl
  ·rename_i y t e;rw[e]at ih;simp only[Xad,List.take_succ_cons]
   congr 1
def Ur{l:List Nat}(h:l.length<=(oH l).length):oH l=l:=by rw[I3 l,Xaq h]
def YX(a b:ByteArray)(ha:a.size<=1048576)(F:b.size<=1048576):PC prog 161 [str a,str b] (.tup [str (PM a b).1,int (PM a b).2]):=by
 refine pcb (fun t=>t == 9) func161 rfl rfl ?_;simp only[go_sem];refine aP (Ge a b ha F) ?_;simp only[go_sem];refine aA (fun h=>?_) (fun h=>?_)
 ·have h:jV a b≠0:=by simpa using h
  simp only[go_sem];rw[show PM a b=(emp,jV a b)from if_neg h];exact .refl _
 have h:jV a b=0:=by simpa using h
 obtain⟨m,n,rfl,rfl,hm,hn⟩:=vD h;have ag:=kQ hm;have ai:=kQ hn;simp only[go_sem,Hd h,cO];rw[show PM (dec m) (dec n)=szN (m+n)by unfold PM;rw[if_pos h,cO,cO]];have om:=eG (b:=bas) (by decide) m;have on:=eG (b:=bas) (by decide) n;have lm:=dT (b:=bas) (by decide) m;have ln:=dT (b:=bas) (by decide) n;have aa:(bQ bas m).length<=(bQ bas m).length:=Xag _;have Y:(bQ bas n).length<=(bQ bas n).length:=Xag _;obtain⟨x,hx⟩:∃x,bQ bas m=x:=⟨_,rfl⟩;obtain⟨y,hy⟩:∃y,bQ bas n=y:=⟨_,rfl⟩;have aa:x.length<=(bQ bas m).length:=by rw[hx];exact Xag _
 have Y:y.length<=(bQ bas n).length:=by rw[hy];exact Xag _
 rw[hx]at om lm ag;rw[hy]at on ln ai;simp only[hx,hy];refine aJ fun j hj=>?_
 refine⟨fun ρ H=>∃(i j c:Nat) (o:List Nat),i<=max x.length y.length+1/\ρ 6=.sl (x.map kE)/\ρ 7=.sl (y.map kE)/\ρ 9=.os j/\ρ 10=int c/\ρ 11=int i/\H j=some (cU o)/\Lim bas o/\o.length=i/\c<=1/\ofL bas o+bas^i*c=ofL bas (x.take i)+ofL bas (y.take i)/\(i=max x.length y.length+1->c=0/\bas^max x.length y.length<=m+n),fun ρ _=>max x.length y.length+1-aT (ρ 11),
  ⟨0,j,0,[],Xab _,by simp only[go_sem],by simp only[go_sem],by simp only[go_sem],by simp only[go_sem];rfl,by simp only[go_sem];rfl,Ki,by simp[Lim],rfl,by omega,by simp[ofL],by omega⟩,?_⟩
 clear hj j;rintro ρ H ⟨i,j,c,o,hi,U,T,X,E,A,Rj,ho,M,hc,hv,J⟩;have ac:lC (x.length:Int) (y.length:Int)=((max x.length y.length:Nat):Int):=by unfold lC;split <;> omega
 simp only[go_sem,U,T,X,E,A,ac];refine aA (fun F=>?_) (fun F=>?_)
 ·have F:i<max x.length y.length\/0<c:=by simpa using F
  have am:i<=max x.length y.length:=by
   rcases F with F|F
   ·omega
   ·rcases Xbb (max x.length y.length) i with h|h
    ·have:=(J (by omega)).1;omega
    ·exact h
  have ak:x.getD i 0<1000000000:=lm.getD (by decide) i;have aj:y.getD i 0<1000000000:=ln.getD (by decide) i;have af:=Zu (b:=bas) (by decide) M hv;have O:i+1=max x.length y.length+1->(x.getD i 0+y.getD i 0+c)/bas=0/\bas^max x.length y.length<=m+n:=fun e=>by
   have e:i=max x.length y.length:=by omega
   have ah:x.getD i 0=0:=by simp[List.getD,List.getElem?_eq_none (by omega:x.length<=i)]
   have ae:y.getD i 0=0:=by simp[List.getD,List.getElem?_eq_none (by omega:y.length<=i)]
   have Z:c=1:=by omega
   rw[ah,ae,Z];refine⟨by decide,?_⟩;rw[Xaq (by omega),Xaq (by omega),om,on,Z,e]at hv;omega
  simp only[go_sem,U,T,X,E,A];refine aP (Qm x i (by omega)) ?_;simp only[go_sem,U,T,X,E,A];refine aP (Qm y i (by omega)) ?_;have e1:IntKind.i64.wrap (IntKind.i64.wrap (((x.getD i 0:Nat):Int)+((y.getD i 0:Nat):Int))+(c:Int))=((x.getD i 0+y.getD i 0+c:Nat):Int):=by rw[show IntKind.i64.wrap (((x.getD i 0:Nat):Int)+((y.getD i 0:Nat):Int))=((x.getD i 0:Nat):Int)+((y.getD i 0:Nat):Int)from bG (by omega),bG (by omega)];omega
  have e2:IntKind.i64.wrap ((((x.getD i 0+y.getD i 0+c:Nat):Int)).tdiv 1000000000)=(((x.getD i 0+y.getD i 0+c)/1000000000:Nat):Int):=by rw[Xbz (by omega),bG (by omega)];omega
  have e3:(((x.getD i 0+y.getD i 0+c:Nat):Int)).tmod 1000000000=(((x.getD i 0+y.getD i 0+c)%1000000000:Nat):Int):=by rw[Xcb (by omega)];omega
  have hq:(x.getD i 0+y.getD i 0+c)/1000000000<=1:=by omega
  simp only[go_sem,U,T,X,E,A,e1,e2,e3];refine⟨by decide,?_⟩;refine aX Rj ⟨rfl,rfl⟩ ⟨rfl,trivial⟩ (by simp only[cU,Xaa,Xad,List.length_nil];omega) (fun j' al=>?_);simp only[go_sem,U,T,X,E,A,e2,aV i];exact⟨by decide,⟨i+1,j',_,o++[(x.getD i 0+y.getD i 0+c)%bas],by omega,rfl,rfl,rfl,yJ,ho.snoc (Nat.mod_lt _ (by decide)),by simp[M],hq,af,O⟩,by simp only[aF];omega⟩
 ·have F : max x.length y.length <= i /\ c = 0 := by simp at F;omega
  obtain⟨F,rfl⟩:=F;rw[Nat.mul_zero,Nat.add_zero,Xaq (by omega),Xaq (by omega),om,on]at hv;have ht:=SG (b:=bas) (by decide) ho hv;have ab:o.length<=(bQ bas (m+n)).length:=by
   rcases Xbb (max x.length y.length) i with h|h
   ·have:=Lm (b:=bas) (by decide) (J (by omega)).2;omega
   ·rw[M,show i=max x.length y.length by omega];exact Nat.max_le.2 ⟨Xai aa (eI (by decide) (Nat.le_add_right m n)),Xai Y (eI (by decide) (Nat.le_add_left n m))⟩
  have I:bQ bas (m+n)=o:=by rw[<-ht];refine Ur ?_;rw[ht] ;exact ab
  simp only[go_sem,U,T,X,E,A];refine PC.useF [j] (.cons _ _ _ _ (.row _ _ _ (by simp only[Xbg,if_true];exact Rj) (YP I)) .nil) (Cr (m+n) (by rw[I];omega)) ?_;simp only[go_sem];exact .refl _
def Zw(a b:ByteArray)(O:a.size<=1048576)(T:b.size<=1048576):PC prog 162 [str a,str b] (.tup [str (PQ a b).1,int (PQ a b).2]):=by
 refine pcd func162 rfl rfl ?_;simp only[go_sem];refine aP (Ge a b O T) ?_;simp only[go_sem];refine aA (fun h=>?_) (fun h=>?_)
 ·have h:jV a b≠0:=by simpa using h
  simp only[go_sem];rw[show PQ a b=(emp,jV a b)from if_neg h];exact .refl _
 have h:jV a b=0:=by simpa using h
 obtain⟨m,n,rfl,rfl,U,X⟩:=vD h;have J:=kQ U;have M:=kQ X;simp only[go_sem,Hd h,cO];have e:PQ (dec m) (dec n)=if m<n then(emp,2)else szN (m-n):=by unfold PQ;rw[if_pos h,cO,cO]
 rw[e];refine aP (CV m n (by omega) (by omega)) ?_;simp only[go_sem];refine aA (fun A=>?_) (fun A=>?_)
 ·have I : m < n := by
   rcases Xbb m n with E|E
   ·exact E
   ·exfalso;have A:=of_decide_eq_true A;unfold jM at A;rw[if_neg (by omega)]at A;split at A <;> omega
  simp only[go_sem];rw[if_pos I];exact .refl _
 ·have F:¬m<n:=fun E=>of_decide_eq_false A (by rw[kD (by omega)];decide)
  simp only[go_sem];rw[if_neg F];refine aP (EW m n (by omega) (by omega)) ?_;simp only[go_sem];refine aP (Cr (m-n) (by have:=eI (b:=bas) (by decide) (Nat.sub_le m n);omega)) ?_;simp only[go_sem];exact .refl _
def ahS(a b:ByteArray)(I:a.size<=1048576)(J:b.size<=1048576):PC prog 160 [str a,str b] (.tup [str (OT a b).1,str (OT a b).2.1,int (OT a b).2.2]):=by
 refine pcd func160 rfl rfl ?_;simp only[go_sem];refine aP (Ge a b I J) ?_;simp only[go_sem];refine aA (fun h=>?_) (fun h=>?_)
 ·have h:jV a b≠0:=by simpa using h
  simp only[go_sem];rw[show OT a b=(emp,emp,jV a b)from if_neg h];exact .refl _
 have h:jV a b=0:=by simpa using h
 obtain⟨m,n,rfl,rfl,M,O⟩:=vD h;have E:=kQ M;have F:=kQ O;simp only[go_sem,Hd h,cO,Xaa];have e:OT (dec m) (dec n)=if n=0 then(emp,emp,10)else(dec (m/n),dec (m%n),0):=by unfold OT;rw[if_pos h,cO,cO]
 rw[e];refine aA (fun A=>?_) (fun A=>?_)
 ·have h0:n=0:=(vG (b:=bas) (by decide)).1 (by simpa using A);simp only[go_sem];rw[if_pos h0];exact .refl _
 ·have h0:n≠0:=fun e=>by subst e;rw[fF]at A;simp at A
  simp only[go_sem];rw[if_neg h0];refine aP (N4 m n (by omega) (by omega) (by omega)) ?_;simp only[go_sem];refine aP (Fo (m/n) (by have:=eI (b:=bas) (by decide) (Nat.div_le_self m n);omega)) ?_;simp only[go_sem];refine aP (Fo (m%n) (by have:=eI (b:=bas) (by decide) (Nat.mod_le m n);omega)) ?_;simp only[go_sem];exact .refl _
def Yg(a b:ByteArray)(Y:a.size<=1048576)(A:b.size<=1048576):PC prog 153 [str a,str b] (.tup [str (Ka a b).1,int (Ka a b).2]):=by
 refine pcd func153 rfl rfl ?_;simp only[go_sem];refine aP (Ge a b Y A) ?_;simp only[go_sem];refine aA (fun h=>?_) (fun h=>?_)
 ·have h:jV a b≠0:=by simpa using h
  simp only[go_sem];rw[show Ka a b=(emp,jV a b)from if_neg h];exact .refl _
 have h:jV a b=0:=by simpa using h
 obtain⟨m,n,rfl,rfl,Z,hn⟩:=vD h;have T:=kQ Z;have U:=kQ hn;simp only[go_sem,Hd h,cO];have e:Ka (dec m) (dec n)=szN (Nat.gcd m n):=by unfold Ka;rw[if_pos h,cO,cO]
 rw[e];refine⟨fun ρ _=>∃p q:Nat,ρ 6=nl p/\ρ 7=nl q/\(bQ bas p).length<=457/\(bQ bas q).length<=457/\Nat.gcd p q=Nat.gcd m n,fun ρ _=>match ρ 7 with| .sl es=>ofL bas (es.map fun c=>aT (c.getD 0 .any))|_=>0,⟨m,n,by simp only[go_sem],by simp only[go_sem],T,U,rfl⟩,?_⟩;rintro ρ H ⟨p,q,M,J,X,E,O⟩;have F:∀q:Nat,ofL bas (((bQ bas q).map kE).map fun c=>aT (c.getD 0 .any))=q:=fun q=>by rw[List.map_map,show((fun c:List AV=>aT (c.getD 0 .any)) ∘ kE)=id from funext fun n=>by simp[kE,aT],List.map_id,eG (by decide)]
 simp only[go_sem,M,J,Xaa];refine aA (fun A=>?_) (fun A=>?_)
 ·have I : 0 < q := by
   rcases Xcc q with h0|h0
   ·subst h0;rw[fF]at A;simp at A
   ·exact h0
  simp only[go_sem,M,J];refine aP (N4 p q (by omega) I (by omega)) ?_;simp only[go_sem,M,J];refine⟨⟨q,p%q,rfl,rfl,E,Xai (eI (by decide) (Nat.le_of_lt (Nat.mod_lt p I))) E,?_⟩,?_⟩
  ·rw[<-O,Nat.gcd_comm p q,Nat.gcd_rec q p,Nat.gcd_comm]
  ·rw[F,F];exact Nat.mod_lt p I
 ·have I : q = 0 := by
   have:(bQ bas q).length=0:=by simp at A;simpa using A
   exact(vG (b:=bas) (by decide)).1 (List.eq_nil_of_length_eq_zero this)
  subst I;simp only[go_sem,M,J];rw[Nat.gcd_zero_right]at O;rw[<-O];refine aP (Cr p (by omega)) ?_;simp only[go_sem];exact .refl _
def aaJ{b:Nat}(E:0<b){l:List Nat}{q p:Nat}(h:ofL b l<b^q)(J:q<=p)(F:p<l.length):l[p]?=some 0:=by
 obtain⟨x,A⟩:=aM F;rcases Xcc x with h0|h0
 ·rw[A,h0]
 ·exfalso;have I:ofL b l=ofL b (l.take p)+b^p*ofL b (l.drop p):=by have:=oM b (l.take p) (l.drop p);rw[List.take_append_drop,Xal,Nat.min_eq_left (by omega)]at this;exact this
  rw[yO b A]at I;have h1:b^p*1<=b^p*(x+b*ofL b (l.drop (p+1))):=Nat.mul_le_mul_left _ (by omega);have M:b^q<=b^p:=Xau E J;omega
def aiC(a b:ByteArray)(ha:a.size<=1048576)(hb:b.size<=1048576):PC prog 246 [str a,str b] (.tup [str (PP a b).1,int (PP a b).2]):=by
 refine pcb (fun t=>t == 9) func246 rfl rfl ?_;simp only[go_sem];refine aP (Ge a b ha hb) ?_;simp only[go_sem];refine aA (fun h=>?_) (fun h=>?_)
 ·have h:jV a b≠0:=by simpa using h
  simp only[go_sem];rw[show PP a b=(emp,jV a b)from if_neg h];exact .refl _
 have h:jV a b=0:=by simpa using h
 obtain⟨m,n,rfl,rfl,hm,hn⟩:=vD h;have ar:=kQ hm;have av:=kQ hn;simp only[go_sem,Hd h,cO,Xaa];rw[show PP (dec m) (dec n)=szN (m*n)by unfold PP;rw[if_pos h,cO,cO]];have om:=eG (b:=bas) (by decide) m;have on:=eG (b:=bas) (by decide) n;have lm:=dT (b:=bas) (by decide) m;have ln:=dT (b:=bas) (by decide) n;have an:(bQ bas (m*n)).length<=(bQ bas m).length+(bQ bas n).length:=by refine nO (by decide) ?_;have h1:=oQ (b:=bas) (by decide) lm;have h2:=oQ (b:=bas) (by decide) ln;rw[om]at h1;rw[on]at h2;rw[Nat.pow_add];exact Nat.mul_lt_mul'' h1 h2
 obtain⟨x,hx⟩:∃x,bQ bas m=x:=⟨_,rfl⟩;obtain⟨y,hy⟩:∃y,bQ bas n=y:=⟨_,rfl⟩;rw[hx]at om lm ar an;rw[hy]at on ln av an;have ew:IntKind.i64.wrap ((x.length:Int)+(y.length:Int))=((x.length+y.length:Nat):Int):=by rw[bG (by omega)];omega
 simp only[hx,hy,ew];refine⟨by omega,aJ fun j hj=>?_⟩;simp only[go_sem];refine⟨fun ρ H=>∃(i:Nat) (out:List Nat),i<=x.length/\ρ 7=.sl (y.map kE)/\ρ 9=.os j/\ρ 32=.sl (x.map kE)/\ρ 33=int x.length/\ρ 34=int i/\H j=some (cU out)/\Lim bas out/\out.length=x.length+y.length/\ofL bas out=ofL bas (x.take i)*ofL bas y,fun ρ _=>x.length-aT (ρ 34),
  ⟨0,List.replicate (x.length+y.length) 0,Xab _,by simp only[go_sem],by simp only[go_sem],by simp only[go_sem],by simp only[go_sem,Xaa],by simp only[go_sem];rfl,?_,Lim.zeros (by decide) _,by simp,by simp[ofL,VO]⟩,?_⟩
 ·rw[aB];simp only[cU,List.map_replicate,IQ];rfl
 clear hj;rintro ρ H ⟨i,out,hi,U,X,A,F,E,Rj,ho,aq,hv⟩;simp only[go_sem,U,X,A,F,E];refine aA (fun af=>?_) (fun ah=>?_)
 ·have af:=ltB af;obtain⟨I,ai⟩:=aM af;have b1:=inB af;have az:I<1000000000:=lm I (Xac ai);have au:out[i+y.length]?=some 0:=by refine aaJ (b:=bas) (by decide) (q:=i+y.length) ?_ (Xag _) (by omega);rw[hv,Nat.pow_add];have h1:=oQ (b:=bas) (by decide) (lm.take i);rw[Xal,Nat.min_eq_left hi]at h1;exact Nat.mul_lt_mul'' h1 (oQ (b:=bas) (by decide) ln)
  simp only[go_sem,U,X,A,F,E,aC ai,b1,Xaa];refine⟨fun ρ H=>∃(k c:Nat) (o:List Nat),k<=y.length/\ρ 7=.sl (y.map kE)/\ρ 9=.os j/\ρ 10=int i/\ρ 11=int I/\ρ 12=int c/\ρ 32=.sl (x.map kE)/\ρ 33=int x.length/\ρ 34=int i/\ρ 39=.sl (y.map kE)/\ρ 40=int y.length/\ρ 41=int k/\H j=some (cU o)/\Lim bas o/\o.length=x.length+y.length/\c<1000000000/\ofL bas o+bas^(i+k)*c=ofL bas out+bas^i*(I*ofL bas (y.take k))/\o[i+y.length]?=some 0,fun ρ _=>y.length-aT (ρ 41),
   ⟨0,0,out,Xab _,by simp only[go_sem,U],by simp only[go_sem,X],by simp only[go_sem],by simp only[go_sem],by simp only[go_sem];rfl,by simp only[go_sem,A],by simp only[go_sem,F],by simp only[go_sem,E],by simp only[go_sem,U],by simp only[go_sem,Xaa],by simp only[go_sem];rfl,Rj,ho,aq,by omega,by simp[ofL],au⟩,?_⟩
  clear U X A F E Rj;rintro ρ H ⟨k,c,o,hk,U,X,Z,ab,ae,A,F,E,Y,aa,T,Rj,hO,ao,hc,hV,hZ⟩;simp only[go_sem,U,X,Z,ab,ae,A,F,E,Y,aa,T];refine aA (fun M=>?_) (fun ac=>?_)
  ·have M:=ltB M;obtain⟨J,ak⟩:=aM M;have b2:=inB M;have ay:J<1000000000:=ln J (Xac ak);obtain⟨v,ag⟩:=aM (show i+k<o.length by omega);have ax:v<1000000000:=hO v (Xac ag);have b3:0<=((i+k:Nat):Int)/\((i+k:Nat):Int)<((cU o).es.length:Nat):=by simp only[cU,Xaa];omega
   have ei:IntKind.i64.wrap ((i:Int)+(k:Int))=((i+k:Nat):Int):=by rw[bG (by omega)];omega
   have al:(cU o).es.getD (i+k) []=kE v:=aC ag;have aw:I*J<=999999999*999999999:=Nat.mul_le_mul (by omega) (by omega);have ap:=Xg (b:=bas) (by decide) ag ak hV;have e1:IntKind.i64.wrap (IntKind.i64.wrap ((v:Int)+IntKind.i64.wrap ((I:Int)*(J:Int)))+(c:Int))=((v+I*J+c:Nat):Int):=by rw[show(I:Int)*(J:Int)=((I*J:Nat):Int)from(Int.natCast_mul I J).symm];generalize I*J=p at *;rw[show IntKind.i64.wrap (p:Int)=(p:Int)from bG (by omega),show IntKind.i64.wrap ((v:Int)+(p:Int))=(v:Int)+p from bG (by omega),bG (by omega)];omega
   have hq:(v+I*J+c)/1000000000<1000000000:=by omega
   have e2:IntKind.i64.wrap ((((v+I*J+c:Nat):Int)).tdiv 1000000000)=(((v+I*J+c)/1000000000:Nat):Int):=by generalize v+I*J+c=p at *;rw[Xbz (by omega),bG (by omega)];omega
   have e3:(((v+I*J+c:Nat):Int)).tmod 1000000000=(((v+I*J+c)%1000000000:Nat):Int):=by rw[Xcb (by omega)];omega
   simp only[go_sem,U,X,Z,ab,ae,A,F,E,Y,aa,T,aC ak,b2,ei,Rj,b3,al,e1,e2,e3];have O:i+k<(cU o).es.length:=by simp only[cU,Xaa];omega
   refine⟨rfl,⟨O,Nat.zero_lt_one⟩,by decide,rfl,bU so3 Rj ⟨O,rfl,Xag 1⟩ ?_⟩;generalize hP:aI H j _=HP;have aj:HP j=some (cU (o.set (i+k) ((v+I*J+c)%bas))):=by rw[<-hP,aB];exact congrArg some (Fh (q:=(v+I*J+c)%bas) ag)
   clear hP Rj;simp only[go_sem,U,X,Z,ab,ae,A,F,E,Y,aa,T,e2,aV k];refine⟨by decide,⟨k+1,_,_,M,rfl,rfl,aj,hO.set (Nat.mod_lt _ (by decide)),by simp[ao],hq,ap,?_⟩,by simp only[aF];omega⟩;rw[List.getElem?_set_ne (by omega)];exact hZ
  ·have ac:=geB hk ac;subst ac;have ei:IntKind.i64.wrap ((i:Int)+(y.length:Int))=((i+y.length:Nat):Int):=by rw[bG (by omega)];omega
   have O:i+y.length<(cU o).es.length:=by simp only[cU,Xaa];omega
   have b3:0<=((i+y.length:Nat):Int)/\((i+y.length:Nat):Int)<((cU o).es.length:Nat):=by omega
   have al:(cU o).es.getD (i+y.length) []=kE 0:=aC hZ;have e1:IntKind.i64.wrap (((0:Nat):Int)+(c:Int))=(c:Int):=by rw[bG (by omega)];omega
   simp only[go_sem,U,X,Z,ab,ae,A,F,E,Y,aa,T,Xaa,ei,Rj,b3,al,e1];refine⟨rfl,⟨O,Nat.zero_lt_one⟩,rfl,bU so3 Rj ⟨O,rfl,Xag 1⟩ ?_⟩;generalize hP:aI H j _=HP;have aj:HP j=some (cU (o.set (i+y.length) c)):=by rw[<-hP,aB];exact congrArg some (Fh (q:=c) hZ)
   clear hP Rj;have am:=adA (b:=bas) hZ hV;simp only[go_sem,U,X,Z,ab,ae,A,F,E,Y,aa,T,aV i];refine⟨⟨i+1,_,af,rfl,aj,hO.set hc,by simp[ao],?_⟩,by simp only[aF];omega⟩;rw[am,hv,kM bas ai,Nat.add_mul,Nat.mul_assoc]
 ·have ah:=geB hi ah;subst ah;simp only[go_sem,X];rw[Xae,om,on]at hv;refine PC.useF [j] (.cons _ _ _ _ (.row _ _ _ (by simp only[Xbg,if_true];exact Rj) (ConvE.refl _)) .nil) (JR ho (by omega) hv) ?_;simp only[go_sem];refine aP (Cr (m*n) (by omega)) ?_;simp only[go_sem];exact .refl _
end Nu
namespace Nu
open Go.Proofs.Tryz
open Go.Nu
open Go.RowKit (Below)
def LN(s:ByteArray):Lib.hasPrefix (bl s) [45]=iU s:=by
 unfold Lib.hasPrefix iU;cases bl s with
 | nil=>rfl
 | cons c r=>
  by_cases h:c=45
  ·subst h;rfl
  ·have h1:(some c == some (45:UInt8))=false:=by simpa using h
   have A:((45:UInt8) == c)=false:=by simpa using Ne.symm h
   simp only[List.isPrefixOf,List.head?_cons,h1,A,Bool.false_and]
def Ih(s:ByteArray):(⟨(Lib.trimPrefix (bl s) [45]).toArray⟩:ByteArray)=eN s:=by
 unfold Lib.trimPrefix eN;rw[LN];split
 ·rfl
 ·exact ajE s
def Ra(s:ByteArray):PC prog 201 [str s,str ⟨#[45]⟩] (.tup [str (eN s),boo (iU s)]):=by
 refine PC.lib (a:=[.string s,.string ⟨#[45]⟩]) (v:=.tuple #[.string (eN s),.bool (iU s)]) (fun S w=>⟨_,rfl,⟨_,_,rfl,rfl,⟨_,_,rfl,rfl,rfl⟩⟩⟩) fun w _=>(Tryz.strings_CutPrefix s ⟨#[45]⟩ w).mono fun e w' ⟨E,A⟩=>?_
 rw[A];refine⟨E.trans ?_,Below.refl _ _⟩;rw[show s.data.toList=bl s from rfl,show(⟨#[45]⟩:ByteArray).data.toList=[45]from rfl,Ih,LN]
def yW(s:ByteArray):PC prog 154 [str s,str ⟨#[45]⟩] (str (eN s)):=by
 refine PC.lib (a:=[.string s,.string ⟨#[45]⟩]) (v:=.string (eN s)) (fun S w=>rfl) fun w _=>(Tryz.strings_TrimPrefix s ⟨#[45]⟩ w).mono fun e w' ⟨E,A⟩=>?_
 rw[A];refine⟨E.trans ?_,Below.refl _ _⟩;rw[show s.data.toList=bl s from rfl,show(⟨#[45]⟩:ByteArray).data.toList=[45]from rfl,Ih]
def PV(n:Int)(h0: -9223372036854775808<=n)(h1:n<=9223372036854775807):PC prog 166 [int n] (str (zed n)):=by
 refine PC.lib (a:=[.int .i64 n]) (v:=.string (zed n)) (fun S w=>rfl) fun w E=>(Tryz.strconv_Itoa n h0 h1 w (YU E)).mono fun e w' ⟨F,k,os,A⟩=>?_
 rw[A];exact⟨F,mR k os⟩
def Si(a b:ByteArray):PC prog 207 [str a,str b] (int (Lib.compareBytes (bl a) (bl b))):=by
 refine PC.lib (a:=[.string a,.string b]) (v:=.int .i64 (Lib.compareBytes (bl a) (bl b))) (fun S w=>rfl) fun w _=>(Tryz.strings_Compare a b w).mono fun e w' ⟨E,A⟩=>?_
 rw[A];exact⟨E,Below.refl _ _⟩
def Fx:(⟨#[48]⟩:ByteArray)=dec 0:=mU (by rw[nN,Lib.decDigits_one (by omega)];rfl)
def EX:(⟨#[49]⟩:ByteArray)=dec 1:=mU (by rw[nN,Lib.decDigits_one (by omega)];rfl)
def wV(s:ByteArray):(bl s == [48])=eqB s (dec 0):=by unfold eqB;rw[<-Fx];rfl
def OY(s:ByteArray):(bl s == [49])=eqB s (dec 1):=by unfold eqB;rw[<-EX];rfl
def JX(s:ByteArray):(eN s).size<=s.size:=by
 unfold eN;split
 ·rw[<-fL,<-fL,kK,List.length_drop];omega
 ·exact Xag _
def BQ(s:ByteArray)(h:s.size<=1048576):PC prog 158 [str s] (.tup [boo (iU s),str (eN s),boo (fK s)]):=by refine pcd func158 rfl rfl ?_;simp only[go_sem];refine aP (Ra s) ?_;simp only[go_sem];refine aP (CF (eN s) (by have:=JX s;omega)) ?_;simp only[go_sem,wV];exact .refl _
def WH(s:ByteArray)(h:s.size<=1048576):PC prog 149 [str s] (boo (fK s)):=by refine pcd func149 rfl rfl ?_;simp only[go_sem];refine aP (BQ s h) ?_;simp only[go_sem];exact .refl _
def ajC(n:Int)(h0: -9223372036854775808<=n)(h1:n<=9223372036854775807):PC prog 118 [int n] (str (zed n)):=by refine pcd func118 rfl rfl ?_;simp only[go_sem];refine aP (PV n h0 h1) ?_;simp only[go_sem];exact .refl _
def aeC(s:ByteArray)(h:s.size<=1048576):PC prog 112 [str s] (int (Nn s)):=by
 refine pcd func112 rfl rfl ?_;simp only[go_sem];refine aP (BQ s h) ?_;simp only[go_sem,wV];refine aA (fun E=>?_) (fun E=>?_)
 ·simp only[go_sem];refine cI ?_;unfold Nn;by_cases A:fK s=true
  ·rw[if_pos A];have J:eqB (eN s) (dec 0)=true:=by rw[A]at E;simpa using E
   have:kU s=0:=by unfold kU;rw[tO.1 J,cO];split <;> rfl
   rw[this];rfl
  ·rw[if_neg A]
 ·have A:fK s=true/\eqB (eN s) (dec 0)=false:=by simpa using E
  have I:fV (eN s)=true:=by have:=A.1;unfold fK at this;simp only[Xam]at this;exact this.1
  have M:0<fH (eN s):=by
   rcases Xcc (fH (eN s))with h0|h0
   ·have:=lD I;rw[h0]at this;exact absurd this.symm (rZ.1 A.2)
   ·exact h0
  simp only[go_sem];refine aA (fun F=>?_) (fun F=>?_)
  ·simp only[go_sem];refine cI ?_;unfold Nn kU;rw[if_pos A.1,if_pos F,Int.sign_eq_neg_one_of_neg (by omega)]
  ·simp only[go_sem];refine cI ?_;unfold Nn kU;rw[if_pos A.1,if_neg (by rw[F];simp),Int.sign_eq_one_of_pos (by omega)]
def sg(m:Bool)(n:Nat):Int:=if m=true then -(n:Int)else n
def aaN(m:Bool)(n:Nat):(if(m&& !eqB (dec n) (dec 0))=true then(⟨#[45]⟩:ByteArray)++dec n else dec n)=zed (sg m n):=by
 unfold sg;by_cases A:n=0
 ·subst A;rw[show eqB (dec 0) (dec 0)=true from tO.2 rfl];simp only[Xby,Bool.and_false,Xaz,if_false];rw[<-fY];split <;> rfl
 ·rw[show eqB (dec n) (dec 0)=false from rZ.2 fun e=>A (wZ.1 e)];cases m with
  | true=>simp only[Bool.not_false,Bool.and_true,if_true];rw[Fg (by omega)];refine mU ?_;rw[Dl,kK,nN];rfl
  | false=>simp only[Bool.false_and,Xaz,if_false];rw[fY]
def QQ(m:Bool)(n:Nat)(J:(dec n).size<=1048576):PC prog 163 [.agg [boo m,str (dec n)]] (str (zed (sg m n))):=by
 refine pcb (fun t=>t == 1) func163 rfl rfl ?_;simp only[go_sem];refine aJ fun j I=>?_
 have R:=aB bS j (some ⟨255,2,[[boo m,str (dec n)]]⟩);generalize aI bS j _=H1 at R |-;simp only[go_sem,R];have A:=aaN m n;have F:(m&& !bl (dec n) == [48])=(m&& !eqB (dec n) (dec 0)):=by rw[<-wV]
 rw[F];refine aA (fun E=>?_) (fun E=>?_)
 ·rw[if_pos E]at A;simp only[go_sem,R];refine⟨by show((1+(dec n).size:Nat):Int)<=9223372036854775807;omega,?_⟩;exact cS A
 ·rw[if_neg (by rw[E];simp)]at A;simp only[go_sem,R];exact cS A
def Ym(m:Bool)(n:Nat):(sg m n).natAbs=n:=by unfold sg;split <;> omega
def F5(m:Bool)(n:Nat):PC prog 206 [.agg [boo m,str (szN n).1],int (szN n).2] (.tup [str (szZ (sg m n)).1,int (szZ (sg m n)).2]):=by
 by_cases A:n<dE
 ·have I:=(iK n).2 A;rw[C3 A,show szZ (sg m n)=(zed (sg m n),0)from if_pos (by rw[Ym];exact A)];refine pcb (fun t=>t == 2) func206 rfl rfl ?_;simp only[go_sem];refine aJ fun j F=>?_
  have R:=aB bS j (some ⟨255,2,[[boo m,str (dec n)]]⟩);generalize aI bS j _=H1 at R |-;simp only[go_sem,R];refine aA (fun E=>by cases E) (fun _=>?_);simp only[go_sem,R];refine aP (QQ m n (by omega)) ?_;simp only[go_sem];exact .refl _
 ·rw[show szN n=(emp,4)from if_neg A,show szZ (sg m n)=(emp,4)from if_neg (by rw[Ym];exact A)];refine pcb (fun t=>t == 2) func206 rfl rfl ?_;simp only[go_sem];refine aJ fun j F=>?_
  simp only[go_sem];refine aA (fun E=>?_) (fun E=>by cases E);simp only[go_sem];exact .refl _
def EP(s:ByteArray):List AV:=[boo (iU s),str (eN s)]
def OQ(s:ByteArray):(EP s).length=2:=(rfl)
def agY(s:ByteArray):(EP s).getD 0 .any=boo (iU s):=(rfl)
def aiL(s:ByteArray):(EP s).getD 1 .any=str (eN s):=(rfl)
def Xi(s:ByteArray):(EP s).take 2=EP s:=(rfl)
attribute [go_sem] OQ agY aiL Xi
def ER(l:List ByteArray):Row:=⟨255,2,l.map EP⟩
def XF(s:ByteArray):Bool:=decide ((eN s).size>4096)
def HL(l:List ByteArray):Int:=if l.any (fun s=> !fK s)=true then 3 else if l.any XF=true then 4 else 0
def zL(l:List ByteArray):List (List AV):=if HL l=0 then l.map EP else[]
def E5{α:Type}{q:α->Bool}{l:List α}{k:Nat}{c:α}(h:l[k]?=some c)(A:q c=true):l.any q=true:=Xao.2 ⟨c,Xac h,A⟩
def Ch{α:Type}{q:α->Bool}{l:List α}(h:∀c∈l,q c=false):l.any q=false:=by rw[Xax];intro c A;rw[h c A];simp
def abR(l:List ByteArray)(hl:l.length<=1048576)(hs:∀s∈l,s.size<=1048576):PC prog 159 [.sl (l.map Go.Aw.D.dL)] (.tup [.sl (zL l),int (HL l)]):=by
 refine pcb (fun t=>t == 4) func159 rfl rfl ?_;simp only[go_sem];refine aJ fun j hj=>?_
 simp only[go_sem];refine⟨fun ρ H=>∃(k j:Nat),k<=l.length/\ρ 12=.sl (l.map Go.Aw.D.dL)/\ρ 13=int l.length/\ρ 4=.os j/\ρ 14=int k/\H j=some (ER (l.take k))/\∀s∈l.take k,fK s=true,fun ρ _=>l.length-aT (ρ 14),
  ⟨0,j,Xab _,by simp only[go_sem],by simp only[go_sem,Xaa],by simp only[go_sem],by simp only[go_sem];rfl,aB _ _ _,by simp⟩,?_⟩
 clear hj j;rintro ρ H ⟨k,j,hk,O,M,F,J,U,hz⟩;simp only[go_sem,O,M,F,J];refine aA (fun A=>?_) (fun I=>?_)
 ·have A:=ltB A;obtain⟨s,E⟩:=aM A;have b1:=inB A;simp only[go_sem,O,M,F,J,aC E,b1];refine aP (BQ s (hs s (Xac E))) ?_;simp only[go_sem,O,M,F,J];refine aA (fun hb=>?_) (fun hb=>?_)
  ·simp only[go_sem];have e:HL l=3:=by unfold HL;rw[if_pos (E5 E hb)]
   rw[show zL l=[]from if_neg (by rw[e];decide),e];exact .refl _
  ·simp only[go_sem,O,M,F,J];refine aX U ⟨rfl,rfl⟩ ⟨rfl,trivial⟩ (by simp only[ER,Xaa,Xal,Xad,List.length_nil];omega) (fun j' ag=>?_);simp only[go_sem,O,M,F,J,aV k];refine⟨⟨k+1,j',A,rfl,rfl,?_,fG E (by simpa using hb) hz⟩,by simp only[aF];omega⟩;rw[aB];simp only[ER,bE E,Xan,Xaw,List.map_nil];rfl
 ·have I:=geB hk I;subst I;rw[Xae]at U hz;have hR:l.any (fun s=> !fK s)=false:=Ch fun s hs=>by rw[hz s hs];rfl
  have ac:((ER l).es.length:Int)=l.length:=by simp[ER]
  simp only[go_sem,F,U,ac];refine⟨fun ρ H=>∃(k:Nat),k<=l.length/\ρ 4=.os j/\ρ 33=.os j/\ρ 34=int l.length/\ρ 35=int k/\H j=some (ER l)/\∀s∈l.take k,XF s=false,fun ρ _=>l.length-aT (ρ 35),
   ⟨0,Xab _,by simp only[go_sem,F],by simp only[go_sem],by simp only[go_sem],by simp only[go_sem];rfl,U,by simp⟩,?_⟩
  clear F U O M J;rintro ρ H ⟨k,hk,F,Y,X,T,U,Z⟩;simp only[go_sem,F,Y,X,T];refine aA (fun A=>?_) (fun I=>?_)
  ·have A:=ltB A;obtain⟨s,E⟩:=aM A;have b1:=inB A;have af:(ER l).es.getD k []=EP s:=aC E;have b2:0<=(k:Int)/\(k:Int)<((ER l).es.length:Nat):=by simp only[ER,Xaa];exact b1
   simp only[go_sem,F,Y,X,T,U,b2,af];have aa:k<(ER l).es.length:=by simp only[ER,Xaa];exact A
   refine⟨rfl,⟨aa,Xag 2⟩,?_⟩;refine aJ fun i hi=>?_
   simp only[go_sem,F,Y,X,T];have ab:j≠i:=aR U hi;refine aN (aB _ _ _) (by simp[OQ]) ?_;generalize hG:aI (aI _ i _) i _=HG;have Ri:HG i=some (⟨255,2,[EP s]⟩:Row):=by rw[<-hG,aB];rfl
   have ae:HG j=some (ER l):=by rw[<-hG,aD _ _ _ _ ab,aD _ _ _ _ ab];exact U
   clear hG hi U;simp only[go_sem,F,Y,X,T,Ri];have hd:decide (((eN s).size:Int)>4096)=XF s:=by unfold XF;rw[decide_eq_decide];omega
   rw[hd];refine aA (fun hb=>?_) (fun hb=>?_)
   ·simp only[go_sem];have e:HL l=4:=by unfold HL;rw[if_neg (by rw[hR];simp),if_pos (E5 E hb)]
    rw[show zL l=[]from if_neg (by rw[e];decide),e];exact .refl _
   ·simp only[go_sem,F,Y,X,T,aV k];exact⟨⟨k+1,A,rfl,ae,fG E hb Z⟩,by simp only[aF];omega⟩
  ·have I:=geB hk I;subst I;rw[Xae]at Z;simp only[go_sem,F];have e:HL l=0:=by unfold HL;rw[if_neg (by rw[hR];simp),if_neg (by rw[Ch Z];simp)]
   rw[show zL l=l.map EP from if_pos e,e];exact .tup _ _ (.cons _ _ _ _ (.row _ _ _ U (ConvE.refl _)) (ConvL.refl _))
end Nu
namespace Nu
open Go.Proofs.Tryz
open Go.Nu
def I1:∀{l r:List UInt8},l.all isD=true->r.all isD=true->l.length=r.length->Lib.compareBytes l r=jM (gR l) (gR r)
 | [],[],_,_,_=>by rw[tK rfl];rfl
 | [],_::_,_,_,h=>by simp at h
 | _::_,[],_,_,h=>by simp at h
 | a::l,b::r,hl,hr,h=>by
  simp only[List.all_cons,Xam]at hl hr;simp only[Xad,Nat.add_right_cancel_iff]at h;have ih:=I1 hl.2 hr.2 h;have T:gR (a::l)=(a.toNat-48)*10^l.length+gR l:=by have:=yE [a] l;simpa[gR]using this
  have I:gR (b::r)=(b.toNat-48)*10^r.length+gR r:=by have:=yE [b] r;simpa[gR]using this
  have h1:=Fe hl.2;have Y:=Fe hr.2;have U:=qP.1 hl.1;have X:=qP.1 hr.1;rw[Lib.compareBytes,T,I,<-h]at *;have E:a<b↔a.toNat<b.toNat:=UInt8.lt_iff_toNat_lt;have F:b<a↔b.toNat<a.toNat:=UInt8.lt_iff_toNat_lt;split
  ·rename_i A;rw[E]at A;have:(a.toNat-48+1)*10^l.length<=(b.toNat-48)*10^l.length:=Nat.mul_le_mul_right _ (by omega);rw[Nat.add_mul]at this;rw[kD (by omega)]
  ·split
   ·rename_i A;rw[F]at A;have:(b.toNat-48+1)*10^l.length<=(a.toNat-48)*10^l.length:=Nat.mul_le_mul_right _ (by omega);rw[Nat.add_mul]at this;rw[jS (by omega)]
   ·rename_i J M;rw[E]at J;rw[F]at M;have:a.toNat=b.toNat:=by omega
    rw[ih,this];generalize (b.toNat-48)*10^l.length=p;unfold jM;have O:(((p+gR l:Nat):Int)<((p+gR r:Nat):Int))↔((gR l:Nat):Int)<((gR r:Nat):Int):=by omega
    have c2:(((p+gR r:Nat):Int)<((p+gR l:Nat):Int))↔((gR r:Nat):Int)<((gR l:Nat):Int):=by omega
    simp only[O,c2]
def FD(m n:Nat):PC prog 165 [str (dec m),str (dec n)] (int (jM m n)):=by
 have F:=Gy m;have I:=Gy n;have A:∀{p q:Nat},(Lib.decDigits p).length<(Lib.decDigits q).length->p<q:=fun {p q} h=>by
  have h1:=(rX (n:=p) (k:=(Lib.decDigits p).length) (tP p)).1 (Xag _);rcases Xbb p q with E|E
  ·exact E
  ·have:=(rX (n:=q) (k:=(Lib.decDigits p).length) (tP p)).2 (by omega);omega
 refine pcd func165 rfl rfl ?_;simp only[go_sem];refine aA (fun h=>?_) (fun h=>?_)
 ·have h:(dec m).size≠(dec n).size:=neN h;simp only[go_sem];refine aA (fun E=>?_) (fun E=>?_)
  ·have E:=ltB E;simp only[go_sem];have:=A (p:=m) (q:=n) (by omega);exact cI (by rw[kD (by omega)])
  ·have E:¬(dec m).size<(dec n).size:=by have:=of_decide_eq_false E;omega
   simp only[go_sem];have:=A (p:=n) (q:=m) (by omega);exact cI (by rw[jS (by omega)])
 ·have h:(dec m).size=(dec n).size:=eqN h;simp only[go_sem];refine aP (Si (dec m) (dec n)) ?_;simp only[go_sem];refine cI ?_;rw[nN,nN,I1 (sZ m) (sZ n) (by omega),Fw,Fw]
def SK(a b:ByteArray)(A:fV a=true)(E:fV b=true):PC prog 165 [str a,str b] (int (jM (fH a) (fH b))):=by
 have:=FD (fH a) (fH b)
 rwa [lD A,lD E]at this
def DL{s:ByteArray}(h:fK s=true):fV (eN s)=true:=by unfold fK at h;simp only[Xam]at h;exact h.1
def RI(a b:ByteArray)(U:a.size<=1048576)(X:b.size<=1048576):PC prog 117 [str a,str b] (int (Yf a b)):=by
 refine pcd func117 rfl rfl ?_;simp only[go_sem];refine aP (BQ a U) ?_;simp only[go_sem];refine aP (BQ b X) ?_;simp only[go_sem];refine aA (fun h=>?_) (fun h=>?_)
 ·simp only[go_sem];refine cI ?_;unfold Yf;rw[if_neg];rintro⟨h1,E⟩;rw[h1,E]at h;cases h
 have J:fK a=true/\fK b=true:=by simpa using h
 have O:=DL J.1;have M:=DL J.2;have F:∀{s:ByteArray},fK s=true->iU s=true->0<fH (eN s):=fun {s} h1 E=>by
  have A:=h1;unfold fK at A;simp only[E,Xbf,Xam,Xbk,rZ]at A;rcases Xcc (fH (eN s))with h0|h0
  ·have:=lD A.1;rw[h0]at this;exact absurd this.symm A.2
  ·exact h0
 have Y:Yf a b=jM (kU a) (kU b):=if_pos J;rw[Y];unfold kU;simp only[go_sem];refine aA (fun E=>?_) (fun E=>?_)
 ·have E:iU a=true/\iU b=true:=by simpa using E
  simp only[go_sem];refine aP (SK _ _ M O) ?_;simp only[go_sem];refine cI ?_;rw[if_pos E.1,if_pos E.2];unfold jM;have T:(((fH (eN b):Nat):Int)<((fH (eN a):Nat):Int))↔(-((fH (eN a):Nat):Int)< -((fH (eN b):Nat):Int)):=by omega
  have c2:(((fH (eN a):Nat):Int)<((fH (eN b):Nat):Int))↔(-((fH (eN b):Nat):Int)< -((fH (eN a):Nat):Int)):=by omega
  simp only[T,c2]
 ·simp only[go_sem];refine aA (fun A=>?_) (fun A=>?_)
  ·have I:iU b=false:=by rw[A]at E;simpa using E
   have:=F J.1 A;simp only[go_sem];refine cI ?_;rw[if_pos A,if_neg (by rw[I];simp),kD (by omega)]
  ·simp only[go_sem];refine aA (fun I=>?_) (fun I=>?_)
   ·have:=F J.2 I;simp only[go_sem];refine cI ?_;rw[if_neg (by rw[A];simp),if_pos I,jS (by omega)]
   ·simp only[go_sem];refine aP (SK _ _ O M) ?_;simp only[go_sem];refine cI ?_;rw[if_neg (by rw[A];simp),if_neg (by rw[I];simp)]
def jK(m:Bool)(n:Nat):List AV:=[boo m,str (dec n)]
def Da(m:Bool)(n:Nat):(jK m n).length=2:=(rfl)
def acR(m:Bool)(n:Nat):(jK m n).getD 0 .any=boo m:=(rfl)
def acE(m:Bool)(n:Nat):(jK m n).getD 1 .any=str (dec n):=(rfl)
def Uv(m:Bool)(n:Nat):(jK m n).take 2=jK m n:=(rfl)
attribute [go_sem] Da acR acE Uv
def OS{m n:Nat}(A:m<dE)(E:n<dE):PM (dec m) (dec n)=szN (m+n):=by unfold PM;rw[if_pos (yB A E),cO,cO]
def MY{m n:Nat}(A:m<dE)(E:n<dE)(h:n<=m):PQ (dec m) (dec n)=szN (m-n):=by unfold PQ;rw[if_pos (yB A E),cO,cO,if_neg (by omega)]
def eJ{m:Nat}(A:m<dE):(dec m).size<=1048576:=by have:=(iK m).2 A;omega
def aiY(a b:Bool)(m n:Nat)(X:m<dE)(Y:n<dE):PC prog 164 [.agg (jK a m),.agg (jK b n)] (.tup [str (szZ (sg a m+sg b n)).1,int (szZ (sg a m+sg b n)).2]):=by
 refine pcb (fun t=>t == 2||t == 3) func164 rfl rfl ?_;simp only[go_sem];refine aJ fun i hi=>?_
 simp only[go_sem];refine aJ fun j hj=>?_
 have F:=aB bS i (some ⟨255,2,[jK a m]⟩);have I:i≠j:=aR F hj;have E:=aB (aI bS i (some ⟨255,2,[jK a m]⟩)) j (some ⟨255,2,[jK b n]⟩);have A:(aI (aI bS i (some ⟨255,2,[jK a m]⟩)) j (some ⟨255,2,[jK b n]⟩)) i=some ⟨255,2,[jK a m]⟩:=by rw[aD _ _ _ _ I];exact F
 generalize aI (aI bS i _) j _=H1 at *;clear F;simp only[go_sem,A,E];refine aA (fun h=>?_) (fun h=>?_)
 ·have O:a=b:=by simpa using h
  subst O;simp only[go_sem,A,E];refine aP (YX (dec m) (dec n) (eJ X) (eJ Y)) ?_;rw[OS X Y];simp only[go_sem,A,E];refine aP (F5 a (m+n)) ?_;simp only[go_sem];have e:sg a (m+n)=sg a m+sg a n:=by unfold sg;split <;> omega
  rw[e];exact .refl _
 have O:b= !a:=by cases a <;> cases b <;> simp_all
 subst O;simp only[go_sem,A,E];refine aP (FD m n) ?_;simp only[go_sem,A,E];refine bN (fun T H'=>∃(Z b':Bool) (p q:Nat),p<dE/\q<dE/\q<=p/\sg Z (p-q)=sg a m+sg (!a) n/\T 2=.op i 0 0/\T 3=.op j 0 0/\H' i=some (⟨255,2,[jK Z p]⟩:Row)/\H' j=some (⟨255,2,[jK b' q]⟩:Row)) ?_ fun K hK=>aA (fun M=>?_) (fun M=>?_)
 rotate_left
 ·have ac : m < n := by
   rcases Xbb m n with h|h
   ·exact h
   ·exfalso;have M:=of_decide_eq_true M;unfold jM at M;rw[if_neg (by omega)]at M;split at M <;> omega
  simp only[go_sem,A,E];refine aN A (by simp[Da]) ?_;generalize J:aI H1 i _=HP;have F:HP i=some (⟨255,2,[jK (!a) n]⟩:Row):=by rw[<-J,aB];rfl
  have U:HP j=some (⟨255,2,[jK (!a) n]⟩:Row):=by rw[<-J,aD _ _ _ _ (Ne.symm I)];exact E
  clear J;simp only[go_sem,F,U];refine aN U (by simp[Da]) ?_;generalize J:aI HP j _=HQ;have S3:HQ j=some (⟨255,2,[jK a m]⟩:Row):=by rw[<-J,aB];rfl
  have S2:HQ i=some (⟨255,2,[jK (!a) n]⟩:Row):=by rw[<-J,aD _ _ _ _ I];exact F
  clear J;simp only[go_sem];refine hK _ _ ⟨!a,a,n,m,Y,X,by omega,?_,by simp only[go_sem],by simp only[go_sem],S2,S3⟩;unfold sg;cases a <;> simp <;> omega
 ·have aa : n <= m := by
   rcases Xbb m n with h|h
   ·exact absurd (by rw[kD (by omega)];decide) (of_decide_eq_false M)
   ·exact h
  simp only[go_sem];refine hK _ _ ⟨a,!a,m,n,X,Y,aa,?_,by simp only[go_sem],by simp only[go_sem],A,E⟩;unfold sg;cases a <;> simp <;> omega
 clear A E;rintro ρ H ⟨Z,b',p,q,hp,hq,ab,hv,h2,h3,F,E⟩;simp only[go_sem,h2,h3,F,E];refine aP (Zw (dec p) (dec q) (eJ hp) (eJ hq)) ?_;rw[MY hp hq ab];simp only[go_sem,h2,h3,F,E];refine aP (F5 Z (p-q)) ?_;simp only[go_sem];rw[hv];exact .refl _
def M2(a b:ByteArray):HL [a,b]=pU a b:=by unfold HL pU XF;simp only[List.any_cons,List.any_nil,Bool.or_false]
def Yn(n:Int):EP (zed n)=jK (decide (n<0)) n.natAbs:=by unfold EP jK;rw[BF,nR]
def XN(n:Int):sg (decide (n<0)) n.natAbs=n:=by
 unfold sg;by_cases h:n<0
 ·simp[h];omega
 ·simp[h];omega
def QZ{m n:Int}(h:pU (zed m) (zed n)=0):zL [zed m,zed n]=[jK (decide (m<0)) m.natAbs,jK (decide (n<0)) n.natAbs]:=by unfold zL;rw[M2,if_pos h];simp only[Xaw,List.map_nil,Yn]
def FE(a b:ByteArray)(A:a.size<=1048576)(E:b.size<=1048576):PC prog 159 [.sl [[str a],[str b]]] (.tup [.sl (zL [a,b]),int (pU a b)]):=by
 have:=abR [a,b] (by simp) (by simp[A,E])
 rwa [M2]at this
def WY(a b:ByteArray)(A:a.size<=1048576)(E:b.size<=1048576):PC prog 115 [str a,str b] (.tup [str (Hz a b).1,int (Hz a b).2]):=by
 refine pcd func115 rfl rfl ?_;simp only[go_sem];refine aP (FE a b A E) ?_;simp only[go_sem];refine aA (fun h=>?_) (fun h=>?_)
 ·have h:pU a b≠0:=by simpa using h
  simp only[go_sem];rw[show Hz a b=(emp,pU a b)from if_neg h];exact .refl _
 have h:pU a b=0:=by simpa using h
 have e:Hz a b=szZ (kU a+kU b):=if_pos h;rw[e];obtain⟨m,n,rfl,rfl,F,I⟩:=Dp h;rw[dP,dP,QZ h];simp only[go_sem];refine dF (by rfl) (by kernel_rfl) ?_;simp only[go_sem,Xad,List.length_nil]
 repeat (refine⟨by first|decide|omega,?_⟩)
 refine⟨_,(aiY _ _ _ _ F I).q rfl,?_⟩;simp only[go_sem];rw[XN,XN];exact .refl _
def WM{m n:Nat}(A:m<dE)(E:n<dE):PP (dec m) (dec n)=szN (m*n):=by unfold PP;rw[if_pos (yB A E),cO,cO]
def agR(a b:ByteArray)(I:a.size<=1048576)(J:b.size<=1048576):PC prog 228 [str a,str b] (.tup [str (zV a b).1,int (zV a b).2]):=by
 refine pcd func228 rfl rfl ?_;simp only[go_sem];refine aP (FE a b I J) ?_;simp only[go_sem];refine aA (fun h=>?_) (fun h=>?_)
 ·have h:pU a b≠0:=by simpa using h
  simp only[go_sem];rw[show zV a b=(emp,pU a b)from if_neg h];exact .refl _
 have h:pU a b=0:=by simpa using h
 have e:zV a b=szZ (kU a*kU b):=if_pos h;rw[e];obtain⟨m,n,rfl,rfl,E,F⟩:=Dp h;rw[dP,dP,QZ h];simp only[go_sem];refine dF (by rfl) (by kernel_rfl) ?_;simp only[go_sem,Xad,List.length_nil]
 repeat (refine⟨by first|decide|omega,?_⟩)
 refine⟨_,(aiC (dec m.natAbs) (dec n.natAbs) (eJ E) (eJ F)).q rfl,?_⟩;rw[WM E F];simp only[go_sem];refine dF (by rfl) (by kernel_rfl) ?_;simp only[go_sem,Xad,List.length_nil]
 repeat (refine⟨by first|decide|omega,?_⟩)
 refine⟨_,(F5 _ (m.natAbs*n.natAbs)).q rfl,?_⟩;simp only[go_sem];have M:sg (!(decide (m<0) == decide (n<0))) (m.natAbs*n.natAbs)=m*n:=by
  unfold sg;rw[Int.natCast_mul];by_cases h1:m<0 <;> by_cases A:n<0
  ·simp only[h1,A,decide_true,beq_self_eq_true,Xby,Xaz,if_false];rw[Xbq (by omega),Xbq (by omega),Int.neg_mul_neg]
  ·simp only[h1,A,decide_true,decide_false];rw[if_pos (show(!(true == false))=true from rfl),Xbq (by omega),Xbr (by omega),Int.neg_mul,Int.neg_neg]
  ·simp only[h1,A,decide_true,decide_false];rw[if_pos (show(!(false == true))=true from rfl),Xbq (a:=n) (by omega),Xbr (by omega),Int.mul_neg,Int.neg_neg]
  ·simp only[h1,A,decide_false,beq_self_eq_true,Xby,Xaz,if_false];rw[Xbr (by omega),Xbr (by omega)]
 rw[M];exact .refl _
def Bb{P:Program}{C:kY}{PC:FuncId->List AV->aH->AV->Prop}{mt:Nat->Bool}{ops:Array Oper}{K:Env->aH->Prop}{m:Nat}{ρ:Env}{H:aH}(J:Env->aH->Prop)(h1:∀ρ H,J ρ H->K ρ H)
 (A:∀K':Env->aH->Prop,(∀ρ H,J ρ H->K' ρ H)->tQ P C PC mt ops K' m ρ H):tQ P C PC mt ops K m ρ H:=A K h1
abbrev Dh(A:List AV):Row:=⟨255,2,[A]⟩
abbrev zN:Row:=Dh [.v (.bool false),.v (.string ByteArray.empty)]
def CI{A:List AV}(h:A.length=2):(⟨255,2,[List.take 2 A++List.drop (List.take 2 A).length [AV.v (.bool false),AV.v (.string ByteArray.empty)]]⟩:Row)=Dh A:=by rw[Xaq (by omega),h];simp
def OF{m n:Int}(J:n≠0)(F:decide (m<0)≠decide (n<0))(O:m.natAbs%n.natAbs≠0):
  m.fdiv n= -((m.natAbs/n.natAbs+1:Nat):Int)/\m.fmod n=sg (decide (n<0)) (n.natAbs-m.natAbs%n.natAbs):=by
 have e:=Nat.mod_add_div m.natAbs n.natAbs;have M:=Nat.mod_lt m.natAbs (show 0<n.natAbs by omega);generalize m.natAbs/n.natAbs=q at *;generalize m.natAbs%n.natAbs=r at *;have E:(r:Int)+(n.natAbs:Int)*(q:Int)=(m.natAbs:Int):=by rw[<-Int.natCast_mul,<-Int.natCast_add,e]
 unfold sg;rcases Int.lt_or_gt_of_ne J with h|h
 ·have I:¬m<0:=fun A=>F (by simp[h,A])
  rw[Xbq (a:=n) (by omega),Xbr (a:=m) (by omega)]at E;refine(Int.fdiv_fmod_unique' h).2 ⟨?_,?_,?_⟩
  ·rw[if_pos (by simpa using h)];have:(n* -((q+1:Nat):Int))= -n*q-n:=by grind
   rw[this];omega
  ·rw[if_pos (by simpa using h)];omega
  ·rw[if_pos (by simpa using h)];omega
 ·have I : m < 0 := by
   rcases Int.lt_or_le m 0 with A|A
   ·exact A
   ·exact absurd (by simp;omega) F
  rw[Xbr (a:=n) (by omega),Xbq (a:=m) (by omega)]at E;refine(Int.fdiv_fmod_unique h).2 ⟨?_,?_,?_⟩
  ·rw[if_neg (by simp;omega)];have:(n* -((q+1:Nat):Int))= -(n*q)-n:=by grind
   rw[this];omega
  ·rw[if_neg (by simp;omega)];omega
  ·rw[if_neg (by simp;omega)];omega
def UV{m n:Int}(J:n≠0)(h0:decide (m<0)=decide (n<0)\/m.natAbs%n.natAbs=0):
  m.fdiv n=sg (!(decide (m<0) == decide (n<0))) (m.natAbs/n.natAbs)/\m.fmod n=sg (decide (n<0)) (m.natAbs%n.natAbs):=by
 have e:=Nat.mod_add_div m.natAbs n.natAbs;have M:=Nat.mod_lt m.natAbs (show 0<n.natAbs by omega);generalize m.natAbs/n.natAbs=q at *;generalize m.natAbs%n.natAbs=r at *;have F:(r:Int)+(n.natAbs:Int)*(q:Int)=(m.natAbs:Int):=by rw[<-Int.natCast_mul,<-Int.natCast_add,e]
 unfold sg;rcases Int.lt_or_gt_of_ne J with h|h
 ·rw[Xbq (a:=n) (by omega)]at F;refine(Int.fdiv_fmod_unique' h).2 ?_;by_cases E:m<0
  ·rw[Xbq (a:=m) (by omega)]at F;simp only[h,E,decide_true,beq_self_eq_true,Xby,Xaz,if_false,if_true];have:n*(q:Int)= -(-n*q):=by grind
   exact⟨by rw[this];omega,by omega,by omega⟩
  ·rw[Xbr (a:=m) (by omega)]at F;have I:r=0:=by
    rcases h0 with h0|h0
    ·simp[h,E]at h0
    ·exact h0
   simp only[h,E,decide_true,decide_false,show(!(false == true))=true from rfl,if_true];have:n* -(q:Int)= -n*q:=by grind
   exact⟨by rw[this];omega,by omega,by omega⟩
 ·rw[Xbr (a:=n) (by omega)]at F;refine(Int.fdiv_fmod_unique h).2 ?_;have A:¬n<0:=by omega
  by_cases E:m<0
  ·rw[Xbq (a:=m) (by omega)]at F;have I:r=0:=by
    rcases h0 with h0|h0
    ·simp[A,E]at h0
    ·exact h0
   simp only[A,E,decide_true,decide_false,show(!(true == false))=true from rfl,if_true,Xaz,if_false];have:n* -(q:Int)= -(n*q):=by grind
   exact⟨by rw[this];omega,by omega,by omega⟩
  ·rw[Xbr (a:=m) (by omega)]at F;simp only[A,E,decide_false,beq_self_eq_true,Xby,Xaz,if_false];exact⟨by omega,by omega,by omega⟩
def Y3{m n:Nat}(A:m<dE)(E:n<dE)(h:n≠0):OT (dec m) (dec n)=(dec (m/n),dec (m%n),0):=by unfold OT;rw[if_pos (yB A E),cO,cO,if_neg h]
def GT(a b:ByteArray)(ha:a.size<=1048576)(F:b.size<=1048576):PC prog 114 [str a,str b] (.tup [str (oB a b).1,str (oB a b).2.1,int (oB a b).2.2]):=by
 refine pcd func114 rfl rfl ?_;simp only[go_sem];refine aP (FE a b ha F) ?_;simp only[go_sem];refine aA (fun h=>?_) (fun h=>?_)
 ·have h:pU a b≠0:=by simpa using h
  simp only[go_sem];rw[show oB a b=(emp,emp,pU a b)from if_neg h];exact .refl _
 have h:pU a b=0:=by simpa using h
 obtain⟨m,n,rfl,rfl,Z,hn⟩:=Dp h;have e:oB (zed m) (zed n)=if n=0 then(emp,emp,10)else(zed (m.fdiv n),zed (m.fmod n),0):=by unfold oB;rw[if_pos h,dP,dP]
 rw[e,QZ h];simp only[go_sem];obtain⟨A,hA⟩:∃A,jK (decide (m<0)) m.natAbs=A:=⟨_,rfl⟩;obtain⟨B,hB⟩:∃B,jK (decide (n<0)) n.natAbs=B:=⟨_,rfl⟩;have U:A.length=2:=by rw[<-hA];rfl
 have Y:B.length=2:=by rw[<-hB];rfl
 refine Bb (fun O H'=>∃i j,O 9=.op i 0 0/\O 10=.op j 0 0/\H' i=some (Dh A)/\H' j=some (Dh B)) ?_ fun K hK=>?_
 rotate_left
 ·refine Av [] (.q 0 (.q 1 (.q 2 (.q 3 (.q 4 (.q 5 (.a2 6 (.a1 7 (.a1 8 (.a1 9 .nil))) 7 (.a1 6 (.a1 8 (.a1 9 .nil)))))))))) (by simp) (by kernel_rfl) fun Hp Hr _ hq _ _=>?_
  simp only[go_sem,Xad,List.length_nil,hA,hB]
  repeat (refine⟨by first|decide|omega,?_⟩)
  refine jN ?_ ?_
  ·simp only[go_sem];refine aJ fun i hi=>?_
   simp only[go_sem];refine aJ fun j hj=>?_
   have R:=aB Hr i (some (zN));have T:=aR R hj;have J:=hY (r':=zN) R hj;have I:=aB (aI Hr i (some (zN))) j (some (zN));simp only[go_sem];refine aN (r:=zN) J (by simp[U]) ?_;simp only[go_sem];refine aN (r:=zN) (by rw[aD _ _ _ _ T.symm];exact I) (by simp[Y]) ?_;simp only[go_sem];refine dX fun _ Hm _ Z=>hK _ _ ⟨i,j,by simp only[go_sem],by simp only[go_sem],?_,?_⟩
   ·rw[Z i (by simp),aD _ _ _ _ T,aB];exact congrArg some (CI U)
   ·rw[Z j (by simp),aB];exact congrArg some (CI Y)
  ·simp only[go_sem];refine aJ fun j hj=>?_
   simp only[go_sem];refine aJ fun i hi=>?_
   have R:=aB Hr j (some (zN));have T:=(aR R hi).symm;have I:=hY (r':=zN) R hi;have J:=aB (aI Hr j (some (zN))) i (some (zN));simp only[go_sem];refine aN (r:=zN) J (by simp[U]) ?_;simp only[go_sem];refine aN (r:=zN) (by rw[aD _ _ _ _ T.symm];exact I) (by simp[Y]) ?_;simp only[go_sem];refine dX fun _ Hm _ Z=>hK _ _ ⟨i,j,by simp only[go_sem],by simp only[go_sem],?_,?_⟩
   ·rw[Z i (by simp),aD _ _ _ _ T,aB];exact congrArg some (CI U)
   ·rw[Z j (by simp),aB];exact congrArg some (CI Y)
 rintro ρ H ⟨i,j,M,E,J,I⟩;subst hA hB;simp only[go_sem,M,E,J,I,wV];refine aA (fun aa=>?_) (fun aa=>?_)
 ·have h0 : n = 0 := by have:=wZ.1 (tO.1 aa);omega
  simp only[go_sem];rw[if_pos h0];exact .refl _
 have h0:n≠0:=fun e=>by subst e;exact rZ.1 aa rfl
 have ah:n.natAbs≠0:=by omega
 rw[if_neg h0];simp only[go_sem,M,E,J,I];refine aP (ahS (dec m.natAbs) (dec n.natAbs) (eJ Z) (eJ hn)) ?_;rw[Y3 Z hn ah];simp only[go_sem,M,E,J,I];refine aA (fun F=>by cases F) (fun _=>?_);simp only[go_sem,M,E,J,I,wV];have aj:=Nat.mod_add_div m.natAbs n.natAbs;have ai:=Nat.mod_lt m.natAbs (show 0<n.natAbs by omega);refine bN (fun O H'=>∃q r:Nat,O 9=.op i 0 0/\O 10=.op j 0 0/\H' i=some (Dh (jK (decide (m<0)) m.natAbs))/\H' j=some (Dh (jK (decide (n<0)) n.natAbs))/\O 11=str (dec q)/\O 12=str (dec r)/\q<dE/\r<dE/\sg (!(decide (m<0) == decide (n<0))) q=m.fdiv n/\sg (decide (n<0)) r=m.fmod n) ?_ fun K hK=>aA (fun F=>?_) (fun F=>?_)
 rotate_left
 ·have F : decide (m < 0) ≠ decide (n < 0) /\ m.natAbs % n.natAbs ≠ 0 := by simp only[Xam,Xbk,beq_eq_false_iff_ne,ne_eq,rZ]at F;exact⟨F.1,fun e=>F.2 (by rw[e])⟩
  obtain⟨f1,f2⟩:=OF h0 F.1 F.2;have ab:m.natAbs/n.natAbs+1<dE:=by
   have h2:2<=n.natAbs:=by omega
   have h3:2*(m.natAbs/n.natAbs)<=n.natAbs*(m.natAbs/n.natAbs):=Nat.mul_le_mul_right _ h2;omega
  have X:m.natAbs/n.natAbs<dE:=by omega
  have ae:(1:Nat)<dE:=Nat.lt_of_le_of_lt (Nat.le_add_left 1 _) ab;have ac:m.natAbs%n.natAbs<dE:=by omega
  generalize hQ:m.natAbs/n.natAbs=q at *;generalize hR:m.natAbs%n.natAbs=r at *;simp only[go_sem,M,E];rw[EX];refine aP (YX (dec q) (dec 1) (eJ X) (eJ ae)) ?_;rw[OS X ae,C3 ab];simp only[go_sem,M,E,J,I];refine aA (fun F=>by cases F) (fun _=>?_);simp only[go_sem,M,E,J,I];refine aP (Zw (dec n.natAbs) (dec r) (eJ hn) (eJ ac)) ?_;rw[MY hn ac (by omega),C3 (show n.natAbs-r<dE by omega)];simp only[go_sem,M,E,J,I];refine aA (fun F=>by cases F) (fun _=>?_);simp only[go_sem,M,E];refine hK _ _ ⟨q+1,n.natAbs-r,by simp only[go_sem,M],by simp only[go_sem,E],J,I,by simp only[go_sem],by simp only[go_sem],ab,by omega,?_,f2.symm⟩;rw[f1];unfold sg;rw[if_pos (by simpa using F.1)]
 ·have F : decide (m < 0) = decide (n < 0) \/ m.natAbs % n.natAbs = 0 := by
   by_cases h1:decide (m<0)=decide (n<0)
   ·exact .inl h1
   ·refine .inr ?_;have h2:(!(decide (m<0) == decide (n<0)))=true:=by simpa using h1
    rw[h2,Xbf,Xbn]at F;exact wZ.1 (tO.1 F)
  obtain⟨f1,f2⟩:=UV h0 F;have X:m.natAbs/n.natAbs<dE:=Nat.lt_of_le_of_lt (Nat.div_le_self _ _) Z;simp only[go_sem,M,E];exact hK _ _ ⟨_,_,by simp only[go_sem,M],by simp only[go_sem,E],J,I,by simp only[go_sem],by simp only[go_sem],X,by omega,f1.symm,f2.symm⟩
 clear M E J I;rintro ρ H ⟨q,r,M,E,J,I,af,ag,hq,hr,f1,f2⟩;simp only[go_sem];refine dF (by rfl) (by kernel_rfl) ?_;simp only[go_sem,M,E,af,ag,J,I];refine⟨_,(QQ _ q (eJ hq)).q rfl,?_⟩;simp only[go_sem,M,E,af,ag,J,I];refine⟨_,(QQ _ r (eJ hr)).q rfl,?_⟩;simp only[go_sem,f1,f2];exact .refl _
end Nu
namespace Nu
open Go.Proofs.Tryz
open Go.Nu
open Go.RowKit (Below)
def DG:∀l:List UInt8,Lib.indexByte l 47=if l.any (· == dS)=true then((l.takeWhile (· != dS)).length:Int)else -1
 | []=>rfl
 | c::l=>by
  have ih:=DG l;unfold Lib.indexByte;by_cases h:c=dS
  ·subst h;rfl
  ·have h1:(c == (47:UInt8))=false:=by simpa[dS]using h
   have E:(c == dS)=false:=by simpa using h
   have A:(c != dS)=true:=by simpa using h
   rw[h1,ih,List.any_cons,E,List.takeWhile_cons,A];simp only[Xaz,if_false,Bool.false_or,if_true];split
   ·rw[if_neg (by simp)];simp
   ·rfl
def E4{α:Type}(p:α->Bool):∀l:List α,l.take (l.takeWhile p).length=l.takeWhile p
 | []=>rfl
 | a::l=>by
  rw[List.takeWhile_cons];split
  ·rw[Xad,List.take_succ_cons,E4 p l]
  ·rfl
def Tr{α:Type}(p:α->Bool):∀l:List α,l.drop ((l.takeWhile p).length+1)=(l.dropWhile p).drop 1
 | []=>rfl
 | a::l=>by
  rw[List.takeWhile_cons,List.dropWhile_cons];split
  ·rw[Xad,List.drop_succ_cons,Tr p l]
  ·rfl
def akE{l:List UInt8}(h:l.any (· == dS)=true):(l.takeWhile (· != dS)).length<l.length:=by
 rcases Xbb (l.takeWhile (· != dS)).length l.length with h1|h1
 ·exact h1
 ·exfalso;have E:=E4 (· != dS) l;rw[Xaq h1]at E;obtain⟨c,F,A⟩:=Xao.1 h;rw[E]at F;have:=Du F;simp at this A;exact this A
def WE(s:ByteArray):Int:=if lN s=true then(((bl s).takeWhile (· != dS)).length:Int)else -1
def WJ(s:ByteArray):PC prog 222 [str s,str ⟨#[47]⟩] (int (WE s)):=by
 refine PC.lib (a:=[.string s,.string ⟨#[47]⟩]) (v:=.int .i64 (WE s)) (fun S w=>rfl) fun w _=>(Tryz.stringslite_Index_one s 47 w).mono fun e w' ⟨E,A⟩=>?_
 rw[A];exact⟨E.trans (by rw[show s.data.toList=bl s from rfl,DG];rfl),Below.refl _ _⟩
def LZ(s:ByteArray):PC prog 151 [str s,str ⟨#[47]⟩] (boo (lN s)):=by
 refine PC.lib (a:=[.string s,.string ⟨#[47]⟩]) (v:=.bool (lN s)) (fun S w=>rfl) fun w _=>(Tryz.strings_Contains_one s 47 w).mono fun e w' ⟨E,A⟩=>?_
 rw[A];refine⟨E.trans ?_,Below.refl _ _⟩;rw[show s.data.toList=bl s from rfl,DG];unfold lN;cases(bl s).any (· == dS) <;> simp
def JV(s:ByteArray):ByteArray:=⟨(((bl s).dropWhile (· != dS)).drop 1).toArray⟩
def XH(s:ByteArray)(h:s.size<=1048576):PC prog 200 [str s,str ⟨#[47]⟩] (.tup (if lN s=true then[str (iR s),str (JV s),boo true]else[str s,str emp,boo false])):=by
 refine pcd func200 rfl rfl ?_;simp only[go_sem];refine aP (WJ s) ?_;simp only[go_sem];have I:=fL s;refine aA (fun A=>?_) (fun A=>?_)
 ·have E : lN s = true := by
   have A:=of_decide_eq_true A;unfold WE at A;split at A
   ·assumption
   ·omega
  have M:=akE E;rw[if_pos E,show WE s=(((bl s).takeWhile (· != dS)).length:Int)from if_pos E];simp only[go_sem];refine dF (by rfl) (by kernel_rfl) ?_;simp only[go_sem];have J:s.extract 0 ((bl s).takeWhile (· != dS)).length=iR s:=mU (by rw[iS,Xbo,E4];exact(kK _).symm);have O:s.extract (((bl s).takeWhile (· != dS)).length+1) s.size=JV s:=mU (by rw[iS,<-I,Xae,Tr];exact(kK _).symm);refine⟨⟨by omega,by omega⟩,?_⟩;have F:IntKind.i64.wrap ((((bl s).takeWhile (· != dS)).length:Int)+((#[47]:Array UInt8).size:Nat))=((((bl s).takeWhile (· != dS)).length+1:Nat):Int):=mX (by omega);simp only[F,Xbd,J,O];refine⟨⟨by omega,by omega⟩,?_⟩;exact .refl _
 ·have E : ¬ lN s = true := fun E => by have A:=of_decide_eq_false A;unfold WE at A;rw[if_pos E]at A;omega
  rw[if_neg E];simp only[go_sem];exact .refl _
def W7{s:ByteArray}(h:lN s=false):iR s=s:=by
 refine mU ?_;unfold iR;rw[kK];refine vX fun c A=>?_
 unfold lN at h;rw[Xax]at h;have:=h c A;simpa using this
def ajQ(s:ByteArray)(h:s.size<=1048576):PC prog 157 [str s,str ⟨#[47]⟩] (.tup (if lN s=true then[str (iR s),str (JV s),boo true]else[str s,str emp,boo false])):=by
 by_cases A:lN s=true
 ·have:=XH s h;rw[if_pos A]at this |-;refine pcd func157 rfl rfl ?_;simp only[go_sem];refine aP this ?_;simp only[go_sem];exact .refl _
 ·have:=XH s h;rw[if_neg A]at this |-;refine pcd func157 rfl rfl ?_;simp only[go_sem];refine aP this ?_;simp only[go_sem];exact .refl _
def Ci(s:ByteArray)(h:s.size<=1048576):PC prog 111 [str s] (.tup [str (iR s),str (iH s)]):=by
 have E:=ajQ s h;by_cases A:lN s=true
 ·rw[if_pos A]at E;refine pcd func111 rfl rfl ?_;simp only[go_sem];refine aP E ?_;simp only[go_sem];refine aA (fun F=>by cases F) (fun _=>?_);simp only[go_sem];rw[show iH s=JV s from if_pos A];exact .refl _
 ·rw[if_neg A]at E;refine pcd func111 rfl rfl ?_;simp only[go_sem];refine aP E ?_;simp only[go_sem];refine aA (fun _=>?_) (fun F=>by cases F);simp only[go_sem];rw[show iH s=dec 1 from if_neg A,W7 (by simpa using A),<-EX];exact .refl _
def NP(s:ByteArray):PC prog 150 [str s] (int (eN s).size):=by refine pcd func150 rfl rfl ?_;simp only[go_sem];refine aP (yW s) ?_;simp only[go_sem];exact .refl _
def Dt(s:ByteArray):(iR s).size<=s.size:=by rw[<-fL,<-fL,show bl (iR s)=(bl s).takeWhile (· != dS)from kK _,<-E4];simp;omega
def VW(s:ByteArray):(iH s).size<=max s.size 1:=by
 unfold iH;split
 ·rw[<-fL,<-fL,kK,List.length_drop];have:((bl s).dropWhile (· != dS)).length<=(bl s).length:=(List.dropWhile_suffix _).length_le;omega
 ·rw[<-EX];exact Nat.le_max_right _ _
def PG:fV (dec 1)=true:=rM 1
def GO{s:ByteArray}(h:fV s=true):eN s=s:=by rw[<-lD h,LX]
def VU{s:ByteArray}(h:lN s=false):iH s=dec 1:=if_neg (by rw[h];simp)
def Qu{s:ByteArray}(A:(!fK (iR s)||decide (((eN (iR s)).size:Int)>4096)||decide (((eN (iH s)).size:Int)>4096))=true):cZ s=false:=by unfold cZ;rw[Bool.eq_false_iff];simp only[ne_eq,Xam,decide_eq_true_eq];rintro⟨⟨⟨⟨h1,E⟩,F⟩,I⟩,_⟩;rw[h1,GO E]at A;simp only[Xby,Bool.false_or,Xbm,decide_eq_true_eq]at A;omega
def DQ{s:ByteArray}(F:(!fK (iR s)||decide (((eN (iR s)).size:Int)>4096)||decide (((eN (iH s)).size:Int)>4096))=false)(I:fV (iH s)=true):
  (fK (iR s)&&fV (iH s)&&decide ((eN (iR s)).size<=4096)&&decide ((iH s).size<=4096))=true/\fK (iR s)=true/\(eN (iR s)).size<=4096/\(iH s).size<=4096:=by
 simp only[Xah,Xbn,decide_eq_false_iff_not]at F;rw[GO I]at F;obtain⟨⟨h1,E⟩,A⟩:=F;have E:(eN (iR s)).size<=4096:=by omega
 have A:(iH s).size<=4096:=by omega
 refine⟨?_,h1,E,A⟩;rw[h1,I];simp[E,A]
def rL(s:ByteArray)(h:s.size<=1048576):PC prog 109 [str s] (boo (cZ s)):=by
 have hn:=Dt s;have hd:=VW s;have h1:(1:Nat)<=1048576:=by omega
 have T:=JX (iR s);have aa:=JX (iH s);refine pcd func109 rfl rfl ?_;simp only[go_sem];refine aP (Ci s h) ?_;simp only[go_sem];refine aP (WH (iR s) (by omega)) ?_;simp only[go_sem];refine⟨_,fun _=>(NP (iR s)).q rfl,?_⟩;simp only[go_sem];refine⟨_,fun _=>(NP (iH s)).q rfl,?_⟩;simp only[go_sem];refine aA (fun F=>?_) (fun F=>?_)
 ·simp only[go_sem];exact cB (Qu F).symm
 simp only[go_sem];refine aP (LZ s) ?_;simp only[go_sem];refine aA (fun I=>?_) (fun I=>?_)
 ·simp only[go_sem];refine cB ?_;have h0:lN s=false:=by simpa using I
  have E:fV (iH s)=true:=by rw[VU h0];exact PG
  unfold cZ;rw[(DQ F E).1,h0];rfl
 have h0:lN s=true:=by simpa using I
 simp only[go_sem];refine aP (CF (iH s) (by omega)) ?_;simp only[go_sem,wV,OY];refine aA (fun A=>?_) (fun A=>?_)
 ·simp only[go_sem];refine cB ?_;unfold cZ;rw[h0];simp only[Xbm,Xbk]at A;rcases A with((A|A)|A)|A <;> simp[A]
 simp only[Xah,Xbn]at A;obtain⟨⟨⟨E,M⟩,O⟩,U⟩:=A;obtain⟨Z,f2,X,J⟩:=DQ F E;simp only[go_sem];refine aP (yW (iR s)) ?_;simp only[go_sem];refine aP (Yg (eN (iR s)) (iH s) (by omega) (by omega)) ?_;simp only[go_sem,OY];refine cB ?_;have fd:=DL f2;have v0:fH (iH s)≠0:=fun e=>rZ.1 M (by rw[<-lD E,e])
 have Y:fH (iH s)<dE:=(Bx E).1 J;have e:Ka (eN (iR s)) (iH s)=(dec (Nat.gcd (fH (eN (iR s))) (fH (iH s))),0):=by unfold Ka;rw[if_pos (Le fd E X J),C3 (Nat.lt_of_le_of_lt (Nat.gcd_le_right _ (by omega)) Y)]
 have ev:(kU (iR s)).natAbs=fH (eN (iR s)):=by unfold kU;split <;> omega
 rw[e];unfold cZ;rw[Z,h0,M,O,U,ev];simp only[beq_self_eq_true,Xbf,Xby,Bool.not_false,Bool.false_or];rw[Xap,tO,wZ,Xba]
def AF(n:Int)(h0: -9223372036854775808<=n)(h1:n<=9223372036854775807):PC prog 82 [int n] (str (zed n)):=by refine pcd func82 rfl rfl ?_;simp only[go_sem];refine aP (ajC n h0 h1) ?_;simp only[go_sem];exact .refl _
def Tl(s:ByteArray)(h:s.size<=1048576):PC prog 78 [str s] (int (D0 s)):=by
 have J:=Dt s;refine pcd func78 rfl rfl ?_;simp only[go_sem];refine aP (rL s h) ?_;simp only[go_sem];refine aA (fun A=>?_) (fun A=>?_)
 ·simp only[go_sem];exact cI (by unfold D0;rw[if_neg (by simpa using A)])
 ·have E:cZ s=true:=by simpa using A
  simp only[go_sem];refine aP (Ci s h) ?_;simp only[go_sem];refine aP (aeC (iR s) (by omega)) ?_;simp only[go_sem];refine cI ?_;obtain⟨x,rfl,I,F,_⟩:=iN E;unfold D0 Nn;rw[if_pos E,F,if_pos (oU _),dP,oL]
def Kq(a b:ByteArray):List AV:=if(cZ a&&cZ b)=true then[str (iR a),str (iH a),str (iR b),str (iH b),int 0]else[str emp,str emp,str emp,str emp,int 3]
def RM(a b:ByteArray)(F:a.size<=1048576)(E:b.size<=1048576):PC prog 116 [str a,str b] (.tup (Kq a b)):=by
 refine pcd func116 rfl rfl ?_;simp only[go_sem];refine aP (rL a F) ?_;simp only[go_sem];refine⟨_,fun _=>(rL b E).q rfl,?_⟩;simp only[go_sem];refine aA (fun A=>?_) (fun A=>?_)
 ·simp only[go_sem];rw[show Kq a b=[str emp,str emp,str emp,str emp,int 3]from if_neg (by rw[Bool.not_eq_true,<-Xbk,Bool.not_and];exact A)];exact .refl _
 ·simp only[go_sem];refine aP (Ci a F) ?_;simp only[go_sem];refine aP (Ci b E) ?_;simp only[go_sem];rw[show Kq a b=_ from if_pos (by rw[<-Xbn,Bool.not_and];exact A)];exact .refl _
def YE(n:Int)(d:Nat)(J:d≠0)(M:n.natAbs<dE)(A:d<dE):PC prog 198 [str (zed n),str (dec d)] (.tup [str (sM (mkRat n d)),int 0]):=by
 have I:=VZ (n:=n) J A;have U:=acL (n:=n) J;have O:∀{m:Int},m.natAbs<dE->(zed m).size<=1048576:=fun {m} hm=>by
  have:=(vP m).2 hm;unfold eN at this;split at this
  ·rw[<-fL,kK,List.length_drop]at this;rw[<-fL];omega
  ·omega
 have F:=F8 J M A;have T:oB (zed n) (dec (Nat.gcd n.natAbs d))=(zed (mkRat n d).num,zed (n.fmod (Nat.gcd n.natAbs d:Nat)),0):=by unfold oB;rw[<-fY,if_pos (zB M (by rw[Xbs];exact I)),dP,dP,if_neg (by omega),adD J]
 have X:oB (dec d) (dec (Nat.gcd n.natAbs d))=(dec (mkRat n d).den,zed ((d:Int).fmod (Nat.gcd n.natAbs d:Nat)),0):=by unfold oB;rw[<-fY,<-fY,if_pos (zB (by rw[Xbs];exact A) (by rw[Xbs];exact I)),dP,dP,if_neg (by omega),abB J,fY]
 refine pcd func198 rfl rfl ?_;simp only[go_sem];refine aP (yW (zed n)) ?_;rw[nR];simp only[go_sem];refine aP (Yg (dec n.natAbs) (dec d) (eJ M) (eJ A)) ?_;rw[show Ka (dec n.natAbs) (dec d)=(dec (Nat.gcd n.natAbs d),0)by unfold Ka;rw[if_pos (yB M A),cO,cO,C3 I]];simp only[go_sem];refine aA (fun E=>by cases E) (fun _=>?_);simp only[go_sem];refine aP (GT (zed n) (dec (Nat.gcd n.natAbs d)) (O M) (eJ I)) ?_;rw[T];simp only[go_sem];refine aA (fun E=>by cases E) (fun _=>?_);simp only[go_sem];refine aP (GT (dec d) (dec (Nat.gcd n.natAbs d)) (eJ A) (eJ I)) ?_;rw[X];simp only[go_sem];refine aA (fun E=>by cases E) (fun _=>?_);simp only[go_sem,OY];generalize mkRat n d=x at *;refine aA (fun E=>?_) (fun E=>?_)
 ·have h1:x.den=1:=wZ.1 (tO.1 E);simp only[go_sem];rw[show sM x=zed x.num from if_pos h1];exact .refl _
 ·have h1:x.den≠1:=fun e=>rZ.1 E (by rw[e])
  simp only[go_sem];have Y:=O F.1;have z2:=eJ F.2;have Z:(zed x.num++slB).size=(zed x.num).size+1:=by rw[ByteArray.size_append];rfl
  refine⟨by show((zed x.num).size+(1:Nat):Int)<=9223372036854775807;omega,?_⟩;refine⟨by show(((zed x.num).size+1+(dec x.den).size:Nat):Int)<=9223372036854775807;omega,?_⟩;rw[show sM x=zed x.num++slB++dec x.den from if_neg h1];exact .refl _
end Nu
namespace Nu
open Go.Proofs.Tryz
open Go.Nu
abbrev Pr:=ByteArray×ByteArray
def AS(p:Pr):List AV:=[str p.1,str p.2]
def JH(p:Pr):(AS p).length=2:=(rfl)
def adZ(p:Pr):(AS p).getD 0 .any=str p.1:=(rfl)
def abU(p:Pr):(AS p).getD 1 .any=str p.2:=(rfl)
def Vd(p:Pr):(AS p).take 2=AS p:=(rfl)
attribute [go_sem] JH adZ abU Vd
def prA(p:Pr):List AV:=[str (zV p.1 p.2).1]
def prE:List Pr->Int
 | []=>0
 | p::l=>if(zV p.1 p.2).2≠0 then(zV p.1 p.2).2 else prE l
def Oe:∀{l:List Pr},(∀p∈l,(zV p.1 p.2).2=0)->prE l=0
 | [],_=>rfl
 | p::l,h=>by unfold prE;rw[if_neg (by simp[h p (by simp)])];exact Oe fun q A=>h q (by simp[A])
def ZF:∀{l:List Pr} {k:Nat} {p:Pr},l[k]?=some p->(∀q∈l.take k,(zV q.1 q.2).2=0)->(zV p.1 p.2).2≠0->prE l=(zV p.1 p.2).2
 | [],k,p,h,_,_=>by simp at h
 | a::l,0,p,h,_,h2=>by simp at h;subst h;unfold prE;rw[if_pos h2]
 | a::l,k+1,p,h,h1,h2=>by unfold prE;rw[if_neg (by simp[h1 a (by simp)])];exact ZF (k:=k) (by simpa using h) (fun q A=>h1 q (by simp[A])) h2
def adW(l:List (List AV)):Row:=⟨9,1,l⟩
def Gs(l:List Pr)(hl:l.length<=1048576)(hs:∀p∈l,p.1.size<=1048576/\p.2.size<=1048576):PC prog 197 [.sl (l.map AS)] (.tup [.sl (if prE l=0 then l.map prA else[]),int (prE l)]):=by
 refine pcb (fun t=>t == 6||t == 11) func197 rfl rfl ?_;simp only[go_sem];refine⟨⟨⟨by omega,by omega⟩,by omega⟩,?_⟩;refine aJ fun j hj=>?_
 simp only[go_sem];refine⟨fun ρ H=>∃(k j:Nat),k<=l.length/\ρ 12=.sl (l.map AS)/\ρ 13=int l.length/\ρ 4=.os j/\ρ 14=int k/\H j=some (adW ((l.take k).map prA))/\∀p∈l.take k,(zV p.1 p.2).2=0,fun ρ _=>l.length-aT (ρ 14),
  ⟨0,j,Xab _,by simp only[go_sem],by simp only[go_sem,Xaa],by simp only[go_sem],by simp only[go_sem];rfl,aB _ _ _,by simp⟩,?_⟩
 clear hj j;rintro ρ H ⟨k,j,hk,E,A,M,F,U,hz⟩;simp only[go_sem,E,A,M,F];refine aA (fun I=>?_) (fun T=>?_)
 ·have I:=ltB I;obtain⟨p,J⟩:=aM I;have b1:=inB I;have Y:=hs p (Xac J);simp only[go_sem,E,A,M,F,aC J,b1];refine aJ fun i hi=>?_
  have Z:j≠i:=aR U hi;simp only[go_sem,E,A,M,F];refine aN (aB _ _ _) (by simp[JH]) ?_;generalize hG:aI (aI _ i _) i _=HG;have Ri:HG i=some (⟨291,2,[AS p]⟩:Row):=by rw[<-hG,aB];rfl
  have aa:HG j=some (adW ((l.take k).map prA)):=by rw[<-hG,aD _ _ _ _ Z,aD _ _ _ _ Z];exact U
  clear hG hi U;simp only[go_sem,E,A,M,F,Ri]
  repeat (refine⟨by first|decide|omega,?_⟩)
  refine aP (agR p.1 p.2 Y.1 Y.2) ?_;simp only[go_sem,E,A,M,F];refine aA (fun O=>?_) (fun O=>?_)
  ·have O:(zV p.1 p.2).2≠0:=by simpa using O
   simp only[go_sem];have e:prE l=(zV p.1 p.2).2:=ZF J hz O;rw[e,if_neg O];exact .refl _
  ·have O:(zV p.1 p.2).2=0:=by simpa using O
   simp only[go_sem,E,A,M,F];refine aX aa ⟨rfl,rfl⟩ ⟨rfl,trivial⟩ (by simp only[adW,Xaa,Xal,Xad,List.length_nil];omega) (fun j' ab=>?_);simp only[go_sem,E,A,M,F,aV k];refine⟨⟨k+1,j',I,rfl,rfl,?_,?_⟩,by simp only[aF];omega⟩
   ·rw[aB];simp only[adW,bE J,Xan,Xaw,List.map_nil];rfl
   ·intro q X;rw[bE J]at X;rcases Xat.1 X with X|X
    ·exact hz q X
    ·rw[Xbg.1 X];exact O
 ·have T:=geB hk T;subst T;rw[Xae]at U hz;simp only[go_sem,M,U];have e:prE l=0:=Oe hz;rw[if_pos e,e];exact .tup _ _ (.cons _ _ _ _ (.row _ _ _ U (ConvE.refl _)) (ConvL.refl _))
def GY{m n:Int}(A:m.natAbs<dE)(E:n.natAbs<dE):zV (zed m) (zed n)=szZ (m*n):=by unfold zV;rw[if_pos (zB A E),dP,dP]
def Y9{m n:Int}(A:m.natAbs<dE)(E:n.natAbs<dE):Hz (zed m) (zed n)=szZ (m+n):=by unfold Hz;rw[if_pos (zB A E),dP,dP]
def KC{n:Int}(h:pI n=false):szZ n=(zed n,0):=if_pos (mL.1 h)
def E3{n:Int}(h:pI n=true):szZ n=(emp,4):=if_neg (fun A=>by rw[mL.2 A]at h;cases h)
def gS{m:Int}(A:m.natAbs<dE):(zed m).size<=1048576:=by
 have:=(vP m).2 A;unfold eN at this;split at this
 ·rw[<-fL,kK,List.length_drop]at this;rw[<-fL];omega
 ·omega
def D5{a b c d:Int}(J:a.natAbs<dE)(F:b.natAbs<dE)(E:c.natAbs<dE)(A:d.natAbs<dE):
  PC prog 197 [.sl [[str (zed a),str (zed b)],[str (zed c),str (zed d)]]] (if(pI (a*b)||pI (c*d))=true then .tup [.sl [],int 4]else .tup [.sl [[str (zed (a*b))],[str (zed (c*d))]],int 0]):=by
 have:=Gs [(zed a,zed b),(zed c,zed d)] (by simp) (by simp[gS,J,F,E,A]);simp only[prE,GY J F,GY E A,Xaw,List.map_nil,prA,AS]at this;cases h1:pI (a*b)with
 | true=>rw[E3 h1]at this;simpa using this
 | false=>
  rw[KC h1]at this;cases I:pI (c*d)with
  | true=>rw[E3 I]at this;simpa using this
  | false=>rw[KC I]at this;simpa using this
def MW{a b:Int}(E:a.natAbs<dE)(A:b.natAbs<dE):
  PC prog 197 [.sl [[str (zed a),str (zed b)]]] (if pI (a*b)=true then .tup [.sl [],int 4]else .tup [.sl [[str (zed (a*b))]],int 0]):=by
 have:=Gs [(zed a,zed b)] (by simp) (by simp[gS,E,A]);simp only[prE,GY E A,Xaw,List.map_nil,prA,AS]at this;cases h1:pI (a*b)with
 | true=>rw[E3 h1]at this;simpa using this
 | false=>rw[KC h1]at this;simpa using this
def fv(g:FuncId):AV:=.v (.func (.func g) #[] #[])
def ZU(op:Int->Int->Int)(x y:Rat):ByteArray×Int:=
 if(pI (x.num*y.den)||pI (y.num*x.den)||pI (op (x.num*y.den) (y.num*x.den))||pI (x.den*y.den))=true then(emp,4)else(sM (mkRat (op (x.num*y.den) (y.num*x.den)) (x.den*y.den)),0)
def IY(op:Int->Int->Int)(a b:ByteArray):ByteArray×Int:=if(cZ a&&cZ b)=true then ZU op (DC a) (DC b)else(emp,3)
def V1(g:FuncId)(op:Int->Int->Int)(aa:aG prog g=true)(hg:∀m n:Int,m.natAbs<dE->n.natAbs<dE->PC prog g [str (zed m),str (zed n)] (.tup [str (szZ (op m n)).1,int (szZ (op m n)).2]))
  (a b:ByteArray) (ha:a.size<=1048576) (E:b.size<=1048576):PC prog 199 [str a,str b,fv g] (.tup [str (IY op a b).1,int (IY op a b).2]):=by
 have A:=RM a b ha E;by_cases J:(cZ a&&cZ b)=true;rotate_left
 ·rw[show Kq a b=_ from if_neg J]at A;rw[show IY op a b=(emp,3)from if_neg J];unfold fv;refine pcd func199 rfl rfl ?_;simp only[go_sem];refine aP A ?_;simp only[go_sem];refine aA (fun _=>?_) (fun E=>by cases E);simp only[go_sem];exact .refl _
 rw[show Kq a b=_ from if_pos J]at A;rw[show IY op a b=_ from if_pos J];simp only[Xam]at J;obtain⟨x,rfl,Z,e1,e2⟩:=iN J.1;obtain⟨y,rfl,hy,e3,e4⟩:=iN J.2;rw[e1,e2,e3,e4]at A;rw[oL,oL];have Y:((x.den:Int)).natAbs<dE:=by rw[Xbs];exact Z.2
 have yd:((y.den:Int)).natAbs<dE:=by rw[Xbs];exact hy.2
 have U:=D5 Z.1 yd hy.1 Y;have T:=MW Y yd;rw[fY,fY]at U T;unfold fv;refine pcd func199 rfl rfl ?_;simp only[go_sem];refine aP A ?_;simp only[go_sem];refine aA (fun E=>by cases E) (fun _=>?_);simp only[go_sem];unfold ZU;cases I:(pI (x.num*y.den)||pI (y.num*x.den))with
 | true=>rw[I,if_pos rfl]at U;refine aP U ?_;simp only[go_sem];refine aA (fun _=>?_) (fun E=>by cases E);exact .refl _
 | false=>
  rw[I]at U;simp only[Xaz,if_false]at U;refine aP U ?_;simp only[go_sem];refine aA (fun E=>by cases E) (fun _=>?_);simp only[go_sem];have F:=I;simp only[Xah]at F;have X:=hg _ _ (mL.1 F.1) (mL.1 F.2);refine dF (by rfl) (by kernel_rfl) ?_;simp only[go_sem,Xad,List.length_nil]
  repeat (refine⟨by first|decide|omega,?_⟩)
  refine⟨_,X.q rfl,?_⟩;simp only[go_sem];generalize hN:op (x.num*y.den) (y.num*x.den)=N;cases O:pI N with
  | true=>rw[E3 O];refine aA (fun _=>?_) (fun E=>by cases E);simp only[go_sem,I,Bool.false_or,Bool.true_or,if_true];exact .refl _
  | false=>
   rw[KC O];refine aA (fun E=>by cases E) (fun _=>?_);simp only[go_sem];cases M:pI ((x.den:Int)*y.den)with
   | true=>rw[M,if_pos rfl]at T;refine aP T ?_;simp only[go_sem];refine aA (fun _=>?_) (fun E=>by cases E);simp only[go_sem,Bool.or_true,if_true];exact .refl _
   | false=>
    rw[M]at T;simp only[Xaz,if_false]at T;refine aP T ?_;simp only[go_sem];refine aA (fun E=>by cases E) (fun _=>?_);simp only[go_sem,Xad,List.length_nil]
    repeat (refine⟨by first|decide|omega,?_⟩)
    have hD:x.den*y.den<dE:=by rw[<-EY];exact mL.1 M
    have:=YE N (x.den*y.den) (Kr x y) (mL.1 O) hD;rw[<-fY,Int.natCast_mul]at this;refine aP this ?_;simp only[go_sem];exact .refl _
def Vg(a b:ByteArray):IY (·+·) a b=CZ a b:=by unfold IY CZ ZU wR;simp only[Yj]
def zG(a b:ByteArray)(F:a.size<=1048576)(I:b.size<=1048576):PC prog 156 [str a,str b] (.tup [str (CZ a b).1,int (CZ a b).2]):=by have:=V1 115 (·+·) (by kernel_rfl) (fun m n A E=>by rw[<-Y9 A E];exact WY _ _ (gS A) (gS E)) a b F I;rw[Vg]at this;unfold fv at this;refine pcd func156 rfl rfl ?_;simp only[go_sem];refine aP this ?_;simp only[go_sem];exact .refl _
def ahL(a b:ByteArray)(ha:a.size<=1048576)(F:b.size<=1048576):PC prog 155 [str a,str b] (.tup [str (BN a b).1,int (BN a b).2]):=by
 have A:=RM a b ha F;by_cases I:(cZ a&&cZ b)=true;rotate_left
 ·rw[show Kq a b=_ from if_neg I]at A;rw[show BN a b=(emp,3)from if_neg I];refine pcd func155 rfl rfl ?_;simp only[go_sem];refine aP A ?_;simp only[go_sem];refine aA (fun _=>?_) (fun F=>by cases F);simp only[go_sem];exact .refl _
 rw[show Kq a b=_ from if_pos I]at A;rw[show BN a b=_ from if_pos I];simp only[Xam]at I;obtain⟨x,rfl,M,T,U⟩:=iN I.1;obtain⟨y,rfl,O,Z,Y⟩:=iN I.2;rw[T,U,Z,Y]at A;rw[oL,oL];have X:((x.den:Int)).natAbs<dE:=by rw[Xbs];exact M.2
 have yd:((y.den:Int)).natAbs<dE:=by rw[Xbs];exact O.2
 have J:=D5 M.1 O.1 X yd;rw[fY,fY]at J;refine pcd func155 rfl rfl ?_;simp only[go_sem];refine aP A ?_;simp only[go_sem];refine aA (fun F=>by cases F) (fun _=>?_);simp only[go_sem];unfold Nw;cases E:(pI (x.num*y.num)||pI ((x.den:Int)*y.den))with
 | true=>rw[E,if_pos rfl]at J;refine aP J ?_;simp only[go_sem];refine aA (fun _=>?_) (fun F=>by cases F);exact .refl _
 | false=>
  rw[E]at J;simp only[Xaz,if_false]at J;refine aP J ?_;simp only[go_sem];refine aA (fun F=>by cases F) (fun _=>?_);simp only[go_sem];simp only[Xah]at E;have hD:x.den*y.den<dE:=by rw[<-EY];exact mL.1 E.2
  have:=YE (x.num*y.num) (x.den*y.den) (Kr x y) (mL.1 E.1) hD;rw[<-fY,Int.natCast_mul]at this;refine dF (by rfl) (by kernel_rfl) ?_;simp only[go_sem,Xad,List.length_nil]
  repeat (refine⟨by first|decide|omega,?_⟩)
  refine⟨_,this.q rfl,?_⟩;simp only[go_sem];rw[<-XY];exact .refl _
def N1{p q:Int}(F:0<q):(p.fdiv q).natAbs<=p.natAbs:=by
 obtain⟨e,h0,h1⟩:=sG (p:=p) F;generalize p.fdiv q=d at *;generalize p.fmod q=m at *;rcases Int.lt_or_le d 0 with A|A
 ·have E:(d+1)*q<=(d+1)*1:=Int.mul_le_mul_of_nonpos_left (by omega) (by omega);rw[Int.add_mul]at E;omega
 ·have E:d*1<=d*q:=Int.mul_le_mul_of_nonneg_left (by omega) A;omega
def FA{p q:Int}(A:p.natAbs<dE)(E:q.natAbs<dE)(h:0<q):oB (zed p) (zed q)=(zed (p.fdiv q),zed (p.fmod q),0):=by unfold oB;rw[if_pos (zB A E),dP,dP,if_neg (by omega)]
def WS(i j:Int):Yf (zed i) (zed j)=jM i j:=by unfold Yf;rw[if_pos ⟨oU _,oU _⟩,dP,dP]
def Q9(i j:Int):jM i j= -1\/jM i j=0\/jM i j=1:=by
 unfold jM;split
 ·exact .inl rfl
 ·split
  ·exact .inr (.inr rfl)
  ·exact .inr (.inl rfl)
def akB:AV->Nat
 | .v (.string s)=>(kU s).natAbs
 | _=>0
def Nv(n:Int):akB (str (zed n))=n.natAbs:=by show(kU (zed n)).natAbs=_;rw[dP]
def GA(n:Int):(bl (zed n) == [48])=decide (n=0):=by rw[wV,<-show zed ((0:Nat):Int)=dec 0 from fY 0,Xap,tO,Z3,decide_eq_true_iff];exact Iff.rfl
def ajI{a b:Int}(A:a=1\/a= -1)(E:b= -1\/b=0\/b=1):IntKind.i64.wrap (a*b)=a*b:=by rcases A with rfl|rfl <;> rcases E with rfl|rfl|rfl <;> rfl
def Oo{a:Int}(A:a=1\/a= -1):IntKind.i64.wrap (0-a)= -a:=by rcases A with rfl|rfl <;> rfl
def sB(a b:ByteArray)(ha:a.size<=1048576)(hb:b.size<=1048576):PC prog 81 [str a,str b] (int (L8 a b)):=by
 have E:=RM a b ha hb;by_cases X:(cZ a&&cZ b)=true;rotate_left
 ·rw[show Kq a b=_ from if_neg X]at E;rw[show L8 a b=0 from if_neg X];refine pcd func81 rfl rfl ?_;simp only[go_sem];refine aP E ?_;simp only[go_sem];refine aA (fun _=>?_) (fun hb=>by cases hb);simp only[go_sem];exact .refl _
 rw[show Kq a b=_ from if_pos X]at E;rw[show L8 a b=_ from if_pos X];simp only[Xam]at X;obtain⟨x,rfl,hx,e1,e2⟩:=iN X.1;obtain⟨y,rfl,hy,e3,e4⟩:=iN X.2;rw[e1,e2,e3,e4]at E;rw[oL,oL];have xd:((x.den:Int)).natAbs<dE:=by rw[Xbs];exact hx.2
 have yd:((y.den:Int)).natAbs<dE:=by rw[Xbs];exact hy.2
 have x0:=x.den_nz;have y0:=y.den_nz;rw[<-fY,<-fY]at E;refine pcd func81 rfl rfl ?_;simp only[go_sem];refine aP E ?_;simp only[go_sem];refine aA (fun hb=>by cases hb) (fun _=>?_);simp only[go_sem];refine⟨fun ρ _=>∃(p q r s g:Int),ρ 5=str (zed p)/\ρ 6=str (zed q)/\ρ 7=str (zed r)/\ρ 8=str (zed s)/\ρ 10=int g/\(g=1\/g= -1)/\0<q/\0<s/\p.natAbs<dE/\q.natAbs<dE/\r.natAbs<dE/\s.natAbs<dE/\adX x y=g*Kd p q r s,fun ρ _=>akB (ρ 6),
  ⟨x.num,x.den,y.num,y.den,1,by simp only[go_sem],by simp only[go_sem],by simp only[go_sem],by simp only[go_sem],by simp only[go_sem],.inl rfl,by omega,by omega,hx.1,xd,hy.1,yd,by rw[Int.one_mul,afV]⟩,?_⟩
 rintro ρ H ⟨p,q,r,s,g,T,O,M,U,A,hg,hq,hs,bp,bq,br,bs,F⟩;simp only[go_sem,T,O,M,U,A];refine aP (GT (zed p) (zed q) (gS bp) (gS bq)) ?_;rw[FA bp bq hq];simp only[go_sem,T,O,M,U,A];refine aP (GT (zed r) (zed s) (gS br) (gS bs)) ?_;rw[FA br bs hs];simp only[go_sem,T,O,M,U,A];have d1:=N1 (p:=p) hq;have d2:=N1 (p:=r) hs;refine aP (RI (zed (p.fdiv q)) (zed (r.fdiv s)) (gS (by omega)) (gS (by omega))) ?_;rw[WS];simp only[go_sem,T,O,M,U,A];obtain⟨_,m0,m1⟩:=sG (p:=p) hq;obtain⟨_,n0,n1⟩:=sG (p:=r) hs;have c3:=Q9 (p.fdiv q) (r.fdiv s);refine aA (fun Y=>?_) (fun Y=>?_)
 ·have Y:jM (p.fdiv q) (r.fdiv s)≠0:=by simpa using Y
  simp only[go_sem,A,ajI hg c3];refine cI ?_;rw[F,PN hq hs (fun e=>Y (tK e))]
 have Y:p.fdiv q=r.fdiv s:=IV.1 (by simpa using Y);have hX:=Uu hq hs Y;generalize p.fmod q=m at *;generalize r.fmod s=n at *;simp only[go_sem,T,O,M,U,A,GA];refine aA (fun Z=>?_) (fun Z=>?_)
 ·have Z:m=0/\n=0:=by simpa using Z
  simp only[go_sem];refine cI ?_;rw[F,hX,Z.1,Z.2,Int.zero_mul,Int.zero_mul,tK rfl,Int.mul_zero]
 simp only[go_sem,T,O,M,U,A,GA];refine aA (fun I=>?_) (fun I=>?_)
 ·have I:m=0:=of_decide_eq_true I;have J:0<n:=by
   rcases Int.lt_or_le 0 n with h|h
   ·exact h
   ·exfalso;have:n=0:=by omega
    rw[I,this]at Z;cases Z
  simp only[go_sem,A,Oo hg];refine cI ?_;rw[F,hX,I,Int.zero_mul,kD (Int.mul_pos J hq)];omega
 have I:0<m:=by have:=of_decide_eq_false I;omega
 simp only[go_sem,T,O,M,U,A,GA];refine aA (fun J=>?_) (fun J=>?_)
 ·have J:n=0:=of_decide_eq_true J;simp only[go_sem,A];refine cI ?_;rw[F,hX,J,Int.zero_mul,jS (Int.mul_pos I hs)];omega
 have J:0<n:=by have:=of_decide_eq_false J;omega
 simp only[go_sem,T,O,M,U,A,Oo hg];refine⟨⟨q,m,s,n,-g,rfl,rfl,rfl,rfl,rfl,by omega,I,J,bq,by omega,bs,by omega,?_⟩,?_⟩
 ·rw[F,hX,U0];rw[Int.mul_neg,Int.neg_mul]
 ·rw[Nv,Nv];omega
end Nu
end Go.Proofs.YtgncgpcpbadfnaaGreatDoor
section
namespace Go.Sb
def pop:Nat->Nat->Nat
 | 0,_=>0
 | w+1,s=>s%2+pop w (s/2)
end Go.Sb
end
section
namespace Go.Proofs.YtgncgpcpbadfnaaGreatDoor.Nu
open Go.Aw Go.Aw.D Go.Proofs Ty Go.Nu
def Jl{P:Program}{G:_}{t:TypeId}{a b:ByteArray}{k:AV->Prop}:gZ P G .lss t (.v (.string a)) (.v (.string b)) k=k (.v (.bool (Op.bytesLess a.toList b.toList))):=(rfl)
attribute [go_sem ↓] Jl
attribute [go_sem] Jl
end Go.Proofs.YtgncgpcpbadfnaaGreatDoor.Nu
end
section
namespace Go.Nu
open Go Go.Lib
def gS{m:Int}(A:m.natAbs<dE):(zed m).size<=4097:=by
 have:=(vP m).2 A;unfold eN at this;split at this
 ·rw[<-fL,kK,List.length_drop]at this;rw[<-fL];omega
 ·omega
def VT{x:Rat}(h:CQ x):(sM x).size<=8194:=by
 have h1:=gS h.1;have A:=(iK x.den).2 h.2;unfold sM;split
 ·omega
 ·rw[ByteArray.size_append,ByteArray.size_append];have:slB.size=1:=rfl;omega
def yH{s:ByteArray}(h:cZ s=true):s.size<=8194:=by obtain⟨x,rfl,A,_⟩:=iN h;exact VT A
def FX{a b:ByteArray}(h:(CZ a b).2=0):cZ (CZ a b).1=true:=by
 unfold CZ at h |-;split at h
 ·rename_i A;rw[if_pos A];obtain⟨e,E⟩:=Q1 h;rw[e];exact yS E
 ·cases h
def QU{a b:ByteArray}(h:(BN a b).2=0):cZ (BN a b).1=true:=by
 unfold BN at h |-;split at h
 ·rename_i A;rw[if_pos A];obtain⟨e,E⟩:=Mq h;rw[e];exact yS E
 ·cases h
def pW:List (Int×ByteArray)->ByteArray->ByteArray×Int
 | [],t=>(t,0)
 | p :: l, t => if (BN (zed p.1) p.2).2 ≠ 0 then (emp, (BN (zed p.1) p.2).2) else
     if(CZ t (BN (zed p.1) p.2).1).2≠0 then(emp,(CZ t (BN (zed p.1) p.2).1).2)else pW l (CZ t (BN (zed p.1) p.2).1).1
def iD(ns:List Int)(xs:List ByteArray):ByteArray×Int:=
 if ns.length≠xs.length then(emp,2)else if xs.any (fun x=> !cZ x)=true then(emp,3)else pW (ns.zip xs) (dec 0)
def O4:cZ (dec 0)=true:=by have:dec 0=sM 0:=(fY 0).symm.trans (if_pos (show(0:Rat).den=1 from rfl)).symm;rw[this];exact yS ⟨aaY,Q6 (k:=1) (by decide) (by decide)⟩
end Go.Nu
end
section
namespace Go.Proofs.YtgncgpcpbadfnaaGreatDoor.Nu
open Go.Aw Go.Aw.D Go.Proofs Ty Go.Nu
end Go.Proofs.YtgncgpcpbadfnaaGreatDoor.Nu
end
