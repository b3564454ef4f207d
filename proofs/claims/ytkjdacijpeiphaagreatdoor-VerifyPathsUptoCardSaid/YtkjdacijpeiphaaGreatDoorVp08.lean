import Derived.WalkKit
import Derived.BigCall
import Derived.Deep.LoopGhost
import Derived.Deep.DeepFit
import Derived.Lib.SmallJoins
import Derived.Lib.ItoaMem
import Derived.Test.YtkjdacijpeiphaaGreatDoorVp07
set_option linter.unusedSimpArgs false
set_option linter.unusedVariables false
set_option linter.defProp false
set_option maxRecDepth 100000
namespace Go.Proofs.YtkjdacijpeiphaaGreatDoor
open Go.Aw Go.Aw.D Go.Proofs Ty
namespace Nu
open Go.Proofs.Tryz
open Go.Nu Go.RowKit Go.Sort
def rJ{T e:TypeId}{B b:Nat}{bs:List Value}{w w':World}(h:Lib.IsBuilder T e B b bs w)(I:Below w.heap.size w w'):Lib.IsBuilder T e B b bs w':=by
 have A:∀p,Lib.BuilderAt T e B b p bs w->Lib.BuilderAt T e B b p bs w':=by
  rintro p ⟨h1,v,E,F,U⟩;refine⟨h1,v,?_,⟨F.1,?_⟩,U⟩
  ·rw[I.block b (Array.getElem?_eq_some_iff.1 E).1];exact E
  ·rcases F.2 with Y|⟨g,cap,cur,X,M,J,O⟩
   ·exact .inl Y
   ·exact .inr ⟨g,cap,cur,X,M,by rw[I.block g (Array.getElem?_eq_some_iff.1 J).1];exact J,O⟩
 exact h.imp (A _) (A _)
def lA{w:World}(k:Nat)(os:Array Obj):Below w.heap.size w (grow (w.drewN k) os):=by
 refine⟨rfl,rfl,rfl,?_,fun i A=>?_⟩
 ·simp[grow]
 ·simp only[grow,World.heap_drewN];rw[Array.getElem?_append_left A]
def HZ{T e:TypeId}{B b:Nat}{l:List UInt8}{s:ByteArray}{w:World}(h:Lib.BuilderAt T e B b (.pointer (some ⟨b,0,none⟩)) (Lib.byteCells l++Lib.strCells s) w):Lib.IsBuilder T e B b (Lib.byteCells (l++bl s)) w:=by rw[Lib.strCells_eq,<-Lib.byteCells_append]at h;exact .inr h
def rK(B b:Nat)(l:List UInt8)(s:ByteArray)(w:World)(h:Lib.IsBuilder 296 5 B b (Lib.byteCells l) w)(A:l.length+s.size<=140737488355328)(E:B<=w.heap.size):
  Calls prog 204 #[.pointer (some ⟨b,0,none⟩),.string s] w fun e w'=>e=.returned (.tuple #[.int .i64 s.size,.nilIface])/\Lib.IsBuilder 296 5 B b (Lib.byteCells (l++bl s)) w'/\Below B w w':=
 (Any.Builder_WriteString (P:=prog) (ρ:=Tryz.lays105_ren) { Tryz.lays105 with } Tryz.Builder_Extra_105 B b (Lib.byteCells l) s w h (by rw[Lib.byteCells_length];exact A) E).mono fun e w' ⟨I,F,J⟩=>⟨I,HZ F,J⟩
def WU{l:List Nat}(h:Lim bas l)(K:Nat)(A:l.length<=K)(h1:1<=K):(Lib.decDigits (ofL bas l)).length<=9*K:=by refine(pD (by omega)).2 (Xbf (mR (by decide) h) ?_);rw[show bas=10^9 from rfl,<-Nat.pow_mul];exact Xaq (by omega) (by omega)
def Fw(n k:Nat):List UInt8:=Lib.decDigits (ofL bas ((bJ bas n).drop k))
def SY{n k x:Nat}(E:k+1<(bJ bas n).length)(A:(bJ bas n)[k]?=some x):Fw n k=Fw n (k+1)++acB x:=by have h1:=dJ (b:=bas) (by decide) n x (Xac A);unfold Fw;rw[vQ bas A];exact UX h1 (VQ (by decide) E)
set_option maxHeartbeats 1600000 in
theorem Lu (n:Nat) (w:World) (b o c:Nat) (ae:(bJ bas n).length<=1048576) (aa:0<(bJ bas n).length)
    (hz:∀(i x:Nat),(bJ bas n)[i]?=some x->w.cell? ⟨b,o+i,none⟩=some (.int .i64 x)) (hb:b<w.heap.size)
    (I:Lib.TabIs prog w "internal/strconv.uint64pow10" .u64 Lib.pow10Tab):
    Calls prog 176 #[.slice (some ⟨b,o,none⟩) (bJ bas n).length c] w fun e w'=>e=.returned (.string (dec n))/\Below w.heap.size w w':=by
  obtain⟨L,hL⟩:∃L,(bJ bas n).length=L:=⟨_,rfl⟩
  have h0:Lib.IsBuilder 296 5 w.heap.size w.heap.size (Lib.byteCells []) (w.alloc (.cells #[.pointer none,.slice none 0 0] 296)):=Lib.fresh_isBuilder 296 5 w
  have b0:Below w.heap.size w (w.alloc (.cells #[.pointer none,.slice none 0 0] 296)):=(Below.refl _ w).alloc (Xaf _) _
  obtain⟨X,O⟩:=aO (show L-1<(bJ bas n).length by omega)
  have am:=hz _ _ O
  have U:=dJ (b:=bas) (by decide) n X (Xac O)
  have U:X<1000000000:=U
  rw[hL]
  rw[hL]at aa ae
  have an:((L:Int) == 0)=false:=by rw[beq_eq_false_iff_ne];omega
  go_enter func176,Tryz.ntmps176
  go_wp2_with (go_at_call 140;refine(Tryz.strconv_Itoa (X:Int) (by omega) (by omega) _ (Lib.tabIs_alloc I _)).mono ?_)
  rintro e W1 ⟨rfl,k,os,rfl⟩
  have M:Below w.heap.size w (grow ((w.alloc (.cells #[.pointer none,.slice none 0 0] 296)).drewN k) os):=b0.trans ⟨rfl,rfl,rfl,(lA k os).size,fun i hi=>(lA k os).block i (Xbf hi b0.size)⟩
  have h1:=rJ h0 (lA k os)
  generalize grow _ os=W1 at *
  have hI:∀x:Nat,(Lib.itoa (x:Int))=Lib.decDigits x:=Lib.itoa_nonneg
  have af:∀x:Nat,x<1000000000->(Lib.decDigits x).length<=9:=fun x hx=>(pD (k:=9) (by omega)).2 hx
  have J:Fw n (L-1)=Lib.decDigits X:=by
    unfold Fw
    rw[vQ bas O,show L-1+1=L by omega,<-hL,Xbi]
    rfl
  have ac:(⟨(Lib.itoa (X:Int)).toArray⟩:ByteArray).size<=9:=by rw[<-eV,iW,hI];exact af _ U
  have Y:=rK w.heap.size w.heap.size [] _ W1 h1 (by simp only[List.length_nil];omega:([]:List UInt8).length+(⟨(Lib.itoa (X:Int)).toArray⟩:ByteArray).size<=_) M.size
  go_wp2_with (go_at_call 204;refine Y.mono ?_)
  rintro e W2 ⟨rfl,h2,b2⟩
  rw[Xbo,iW,hI,<-J]at h2
  have b2:=M.trans b2
  have ak:∀k,(Fw n k).length<=9437184:=fun k=>by
    have:=WU ((dJ (b:=bas) (by decide) n).drop k) 1048576 (by rw[List.length_drop,hL];omega) (by omega)
    unfold Fw
    omega
  clear h0 b0 h1 M ac J
  go_wp2
  go_loopg [4] (L-1) (fun g s4 wx=>∃k:Nat,k<=L-1/\g=k/\s4=.int .i64 ((k:Int)-1)/\Lib.IsBuilder 296 5 w.heap.size w.heap.size (Lib.byteCells (Fw n k)) wx/\Below w.heap.size w wx)
  case atStart=>exact⟨L-1,Xaf _,rfl,by congr 1;omega,h2,b2⟩
  clear h2 b2
  case round=>
    obtain⟨_,hk,rfl,rfl,hB,A⟩:=hrel
    cases gk with
    | zero=>
      have ai:Fw n 0=Lib.decDigits n:=by unfold Fw;rw[Xbg,dR (by decide)]
      rw[ai]at hB
      have cS:=Tryz.Builder_String_any w.heap.size w.heap.size (Lib.decDigits n) wr hB A.size
      go_wp2_with (go_at_call 206;refine cS.mono ?_)
      rintro e W3 ⟨rfl,E⟩
      go_wp2
      go_ret
      exact⟨rfl,A.trans E⟩
    | succ i=>
      obtain⟨x,hx⟩:=aO (show i<(bJ bas n).length by omega)
      have hl:=(A.cell hb).trans (hz i x hx)
      have ag:x<1000000000:=dJ (b:=bas) (by decide) n x (Xac hx)
      have ah:(((i+1:Nat):Int)-1)=(i:Int):=by omega
      have T:=SY (n:=n) (by omega) hx
      have ab:Lib.TabIs prog wr "internal/strconv.uint64pow10" .u64 Lib.pow10Tab:=Go.Joins.tab_stays (g:=1) (by kernel_rfl) I A (Xaf _)
      have al:=ak (i+1)
      rw[ah]
      go_wp2_with (go_at_call 140;refine(Tryz.strconv_Itoa (x:Int) (by omega) (by omega) _ ab).mono ?_)
      rintro e W1 ⟨rfl,k,os,rfl⟩
      have M:Below w.heap.size w (grow (wr.drewN k) os):=A.trans ⟨rfl,rfl,rfl,(lA k os).size,fun i hi=>(lA k os).block i (Xbf hi A.size)⟩
      have h1:=rJ hB (lA k os)
      clear hB ab
      generalize grow _ os=W1 at *
      have aj:=af x ag
      rw[hI x]
      go_wp2_with (go_at_call 205;fail)
      have e9:(9:Int)-((Lib.decDigits x).length:Nat)=((9-(Lib.decDigits x).length:Nat):Int):=by omega
      rw[e9]
      refine(Tryz.strings_Repeat ⟨#[48]⟩ (9-(Lib.decDigits x).length) W1 (by omega) (by show 1*_<=_;omega)).mono ?_
      rintro e W3 ⟨rfl,E⟩
      have h3:=rJ h1 E
      have E:Below w.heap.size w W3:=M.trans ⟨E.os,E.tape,E.output,E.size,fun i hi=>E.block i (Xbf hi M.size)⟩
      have F:bl ⟨(Lib.repeatL (⟨#[48]⟩:ByteArray).data.toList (9-(Lib.decDigits x).length)).toArray⟩=List.replicate (9-(Lib.decDigits x).length) 48:=by
        rw[iW]
        have:=Lib.repeatL_replicate 48 1 (9-(Lib.decDigits x).length)
        rwa [Nat.mul_one]at this
      clear h1 M
      generalize (⟨(Lib.repeatL (⟨#[48]⟩:ByteArray).data.toList (9-(Lib.decDigits x).length)).toArray⟩:ByteArray)=Z at *
      have hZ:Z.size<=9:=by rw[<-eV,F,Xbp];omega
      have Y:=rK w.heap.size w.heap.size _ Z W3 h3 (by omega) E.size
      go_wp2_with (go_at_call 204;refine Y.mono ?_)
      rintro e W4 ⟨rfl,h4,b4⟩
      have b4:=E.trans b4
      clear Y h3 E
      have hX:(⟨(Lib.decDigits x).toArray⟩:ByteArray).size<=9:=by rw[<-eV,iW];exact aj
      have Y:=rK w.heap.size w.heap.size _ ⟨(Lib.decDigits x).toArray⟩ W4 h4 (by rw[Xai,eV];omega) b4.size
      go_wp2_with (go_at_call 204;refine Y.mono ?_)
      rintro e W5 ⟨rfl,h5,b5⟩
      have b5:=b4.trans b5
      rw[Xbd,F,iW]at h5
      go_wp2
      go_roundg i
      case measure=>omega
      case rel=>exact⟨i,by omega,rfl,rfl,by rw[T];exact h5,b5⟩
def Jq{S:Sg}{w:World}{b:Nat}:∀{l:List Nat} {o sz:Nat},0<sz->fK S w b sz o (l.map iJ)->∀(i x:Nat),l[i]?=some x->w.cell? ⟨b,o+i,none⟩=some (.int .i64 x)
 | [],_,_,_,_,i,x,h=>by simp at h
 | y::l,o,sz,hp,h,i,x,hx=>by
  simp only[Xat,fK]at h;obtain⟨h1,A,I⟩:=h;have h1:sz=1:=h1.symm;subst h1;cases i with
  | zero=>simp only[List.getElem?_cons_zero,Option.some.injEq]at hx;subst hx;simp only[iJ,cE]at A;obtain⟨⟨u,F,_,E⟩,_⟩:=A;simp only[rep]at E;subst E;exact F
  | succ i=>
   have:=Jq (by omega) I i x (by simpa using hx)
   rwa [Nat.add_assoc,Nat.add_comm 1 i]at this
def Wc{w:World}(h:∀t∈QG,pO w t.1=some t.2):Lib.TabIs prog w "internal/strconv.uint64pow10" .u64 Lib.pow10Tab:=by have h1:=h (1,Ue) (by simp[QG]);unfold Lib.TabIs World.var?;rw[show prog.globalNamed "internal/strconv.uint64pow10" = some 1 by kernel_rfl];exact h1
def D0(n:Nat)(M:(bJ bas n).length<=1048576):PC prog 176 [nl n] (str (dec n)):=by
 by_cases h0:n=0
 ·subst h0;rw[Ir];refine pcd func176 rfl rfl ?_;simp only[go_sem];refine aA (fun h=>?_) (fun h=>by simp at h);simp only[go_sem];refine cS ?_;refine kZ ?_;rw[lU,Lib.decDigits_one (by omega)];rfl
 ·intro S w vals F hf Y;simp only[aW,rep]at Y;obtain⟨y,t,rfl,⟨ad,m,c,rfl,Z,e2,e3,O⟩,rfl⟩:=Y;have I:bJ bas n≠[]:=fun e=>h0 ((sC (by decide)).1 e)
  have E:=List.length_pos_iff.2 I;rw[Xaa]at Z;rcases O with O|⟨b,o,sz,rfl,T,U,J⟩
  ·simp only[List.map_eq_nil_iff]at O;exact absurd O I
  ·subst Z;refine(Lu n w b o c M E (Jq U J) (F.fz_lt b (F.ro_fz b T)) (Wc fun t ht=>(F.tabs t ht).2)).mono fun e w' ⟨he,A⟩=>?_
   exact⟨_,_,bG,S,he,rfl,F.after A.size fun k X=>A.block k X,by simp only[rep],F.grow A.os A.tape A.output A.size fun k X=>A.block k X,eF.refl _ _⟩
def Ag(n:Nat)(E:(bJ bas n).length<=1048576):PC prog 169 [nl n] (.tup [str (szN n).1,int (szN n).2]):=by
 refine pcd func169 rfl rfl ?_;simp only[go_sem];refine aP (D0 n E) ?_;simp only[go_sem];have A:=gH n;refine aA (fun h=>?_) (fun h=>?_)
 ·have h:4096<(dec n).size:=by simp at h;omega
  simp only[go_sem];rw[show szN n=(emp,4)from if_neg fun e=>by have:=A.2 e;omega];exact .refl _
 ·have h:(dec n).size<=4096:=by simp at h;omega
  simp only[go_sem];rw[A6 (A.1 h)];exact .refl _
end Nu
namespace Nu
open Go.Proofs.Tryz
open Go.Nu
def OM{n K:Nat}(h:n<cU)(A:WR<=9*K):(bJ bas n).length<=K:=by refine lT (b:=bas) (k:=K) (by decide) (Xbf h ?_);rw[show bas=10^9 from rfl,<-Nat.pow_mul];exact Xaq (show 0<10 by omega) A
def iZ{n:Nat}(h:n<cU):(bJ bas n).length<=457:=OM h (by decide)
def T4{H:aG}{o l:List Nat}(h:l=o):ConvE H (cL o).es (l.map iJ):=h▸ConvE.refl _
def GX:∀l:List Nat,mE l=l.take (mE l).length
 | []=>rfl
 | x::l=>by
  have ih:=GX l;rw[mE];split
  ·split <;> rfl
  ·rename_i y t e;rw[e]at ih;simp only[Xae,List.take_succ_cons]
   congr 1
def SR{l:List Nat}(h:l.length<=(mE l).length):mE l=l:=by rw[GX l,Xam h]
def VT(a b:ByteArray)(ha:a.size<=1048576)(F:b.size<=1048576):PC prog 135 [str a,str b] (.tup [str (Nk a b).1,int (Nk a b).2]):=by
 refine pcb (fun t=>t == 9) func135 rfl rfl ?_;simp only[go_sem];refine aP (D3 a b ha F) ?_;simp only[go_sem];refine aA (fun h=>?_) (fun h=>?_)
 ·have h:iO a b≠0:=by simpa using h
  simp only[go_sem];rw[show Nk a b=(emp,iO a b)from if_neg h];exact .refl _
 have h:iO a b=0:=by simpa using h
 obtain⟨m,n,rfl,rfl,hm,hn⟩:=sO h;have ae:=iZ hm;have af:=iZ hn;simp only[go_sem,DM h,cF];rw[show Nk (dec m) (dec n)=szN (m+n)by unfold Nk;rw[if_pos h,cF,cF]];have om:=dR (b:=bas) (by decide) m;have on:=dR (b:=bas) (by decide) n;have lm:=dJ (b:=bas) (by decide) m;have ln:=dJ (b:=bas) (by decide) n;have ab:(bJ bas m).length<=(bJ bas m).length:=Xaf _;have Z:(bJ bas n).length<=(bJ bas n).length:=Xaf _;obtain⟨x,hx⟩:∃x,bJ bas m=x:=⟨_,rfl⟩;obtain⟨y,hy⟩:∃y,bJ bas n=y:=⟨_,rfl⟩;have ab:x.length<=(bJ bas m).length:=by rw[hx];exact Xaf _
 have Z:y.length<=(bJ bas n).length:=by rw[hy];exact Xaf _
 rw[hx]at om lm ae;rw[hy]at on ln af;simp only[hx,hy];refine aJ fun j hj=>?_
 refine⟨fun ρ H=>∃(i j c:Nat) (o:List Nat),i<=max x.length y.length+1/\ρ 6=.sl (x.map iJ)/\ρ 7=.sl (y.map iJ)/\ρ 9=.os j/\ρ 10=int c/\ρ 11=int i/\H j=some (cL o)/\Lim bas o/\o.length=i/\c<=1/\ofL bas o+bas^i*c=ofL bas (x.take i)+ofL bas (y.take i)/\(i=max x.length y.length+1->c=0/\bas^max x.length y.length<=m+n),fun ρ _=>max x.length y.length+1-aU (ρ 11),
  ⟨0,j,0,[],Xab _,by simp only[go_sem],by simp only[go_sem],by simp only[go_sem],by simp only[go_sem];rfl,by simp only[go_sem];rfl,Hw,by simp[Lim],rfl,by omega,by simp[ofL],by omega⟩,?_⟩
 clear hj j;rintro ρ H ⟨i,j,c,o,hi,U,X,T,A,E,Rj,ho,M,hc,hv,I⟩;have Y:jL (x.length:Int) (y.length:Int)=((max x.length y.length:Nat):Int):=by unfold jL;split <;> omega
 simp only[go_sem,U,X,T,A,E,Y];refine aA (fun F=>?_) (fun F=>?_)
 ·have F:i<max x.length y.length\/0<c:=by simpa using F
  have ak:i<=max x.length y.length:=by
   rcases F with F|F
   ·omega
   ·rcases Xay (max x.length y.length) i with h|h
    ·have:=(I (by omega)).1;omega
    ·exact h
  have aj:x.getD i 0<1000000000:=lm.getD (by decide) i;have al:y.getD i 0<1000000000:=ln.getD (by decide) i;have ah:=WH (b:=bas) (by decide) M hv;have O:i+1=max x.length y.length+1->(x.getD i 0+y.getD i 0+c)/bas=0/\bas^max x.length y.length<=m+n:=fun e=>by
   have e:i=max x.length y.length:=by omega
   have ag:x.getD i 0=0:=by simp[List.getD,List.getElem?_eq_none (by omega:x.length<=i)]
   have ai:y.getD i 0=0:=by simp[List.getD,List.getElem?_eq_none (by omega:y.length<=i)]
   have aa:c=1:=by omega
   rw[ag,ai,aa];refine⟨by decide,?_⟩;rw[Xam (by omega),Xam (by omega),om,on,aa,e]at hv;omega
  simp only[go_sem,U,X,T,A,E];refine aP (Mg x i (by omega)) ?_;simp only[go_sem,U,X,T,A,E];refine aP (Mg y i (by omega)) ?_;have e1:IntKind.i64.wrap (IntKind.i64.wrap (((x.getD i 0:Nat):Int)+((y.getD i 0:Nat):Int))+(c:Int))=((x.getD i 0+y.getD i 0+c:Nat):Int):=by rw[show IntKind.i64.wrap (((x.getD i 0:Nat):Int)+((y.getD i 0:Nat):Int))=((x.getD i 0:Nat):Int)+((y.getD i 0:Nat):Int)from bE (by omega),bE (by omega)];omega
  have e2:IntKind.i64.wrap ((((x.getD i 0+y.getD i 0+c:Nat):Int)).tdiv 1000000000)=(((x.getD i 0+y.getD i 0+c)/1000000000:Nat):Int):=by rw[Xbu (by omega),bE (by omega)];omega
  have e3:(((x.getD i 0+y.getD i 0+c:Nat):Int)).tmod 1000000000=(((x.getD i 0+y.getD i 0+c)%1000000000:Nat):Int):=by rw[Int.tmod_eq_emod_of_nonneg (by omega)];omega
  have hq:(x.getD i 0+y.getD i 0+c)/1000000000<=1:=by omega
  simp only[go_sem,U,X,T,A,E,e1,e2,e3];refine⟨by decide,?_⟩;refine bT Rj ⟨rfl,rfl⟩ ⟨rfl,trivial⟩ (by simp only[cL,Xaa,Xae,List.length_nil];omega) (fun j' am=>?_);simp only[go_sem,U,X,T,A,E,e2,aT i];exact⟨by decide,⟨i+1,j',_,o++[(x.getD i 0+y.getD i 0+c)%bas],by omega,rfl,rfl,rfl,uX,ho.snoc (Nat.mod_lt _ (by decide)),by simp[M],hq,ah,O⟩,by simp only[aF];omega⟩
 ·have F : max x.length y.length <= i /\ c = 0 := by simp at F;omega
  obtain⟨F,rfl⟩:=F;rw[Nat.mul_zero,Nat.add_zero,Xam (by omega),Xam (by omega),om,on]at hv;have ht:=Ql (b:=bas) (by decide) ho hv;have ac:o.length<=(bJ bas (m+n)).length:=by
   rcases Xay (max x.length y.length) i with h|h
   ·have:=Ik (b:=bas) (by decide) (I (by omega)).2;omega
   ·rw[M,show i=max x.length y.length by omega];exact Nat.max_le.2 ⟨Xag ab (dT (by decide) (Nat.le_add_right m n)),Xag Z (dT (by decide) (Nat.le_add_left n m))⟩
  have J:bJ bas (m+n)=o:=by rw[<-ht];refine SR ?_;rw[ht] ;exact ac
  simp only[go_sem,U,X,T,A,E];refine PC.useF [j] (.cons _ _ _ _ (.row _ _ _ (by simp only[Xax,if_true];exact Rj) (T4 J)) .nil) (Ag (m+n) (by rw[J];omega)) ?_;simp only[go_sem];exact .refl _
def Vr(a b:ByteArray)(O:a.size<=1048576)(X:b.size<=1048576):PC prog 136 [str a,str b] (.tup [str (Mr a b).1,int (Mr a b).2]):=by
 refine pcd func136 rfl rfl ?_;simp only[go_sem];refine aP (D3 a b O X) ?_;simp only[go_sem];refine aA (fun h=>?_) (fun h=>?_)
 ·have h:iO a b≠0:=by simpa using h
  simp only[go_sem];rw[show Mr a b=(emp,iO a b)from if_neg h];exact .refl _
 have h:iO a b=0:=by simpa using h
 obtain⟨m,n,rfl,rfl,J,U⟩:=sO h;have M:=iZ J;have T:=iZ U;simp only[go_sem,DM h,cF];have e:Mr (dec m) (dec n)=if m<n then(emp,2)else szN (m-n):=by unfold Mr;rw[if_pos h,cF,cF]
 rw[e];refine aP (Bl m n (by omega) (by omega)) ?_;simp only[go_sem];refine aA (fun A=>?_) (fun A=>?_)
 ·have E : m < n := by
   rcases Xay m n with F|F
   ·exact F
   ·exfalso;have A:=of_decide_eq_true A;unfold iC at A;rw[if_neg (by omega)]at A;split at A <;> omega
  simp only[go_sem];rw[if_pos E];exact .refl _
 ·have I:¬m<n:=fun F=>of_decide_eq_false A (by rw[iK (by omega)];decide)
  simp only[go_sem];rw[if_neg I];refine aP (Dd m n (by omega) (by omega)) ?_;simp only[go_sem];refine aP (Ag (m-n) (by have:=dT (b:=bas) (by decide) (Nat.sub_le m n);omega)) ?_;simp only[go_sem];exact .refl _
def aaK(a b:ByteArray)(I:a.size<=1048576)(O:b.size<=1048576):PC prog 134 [str a,str b] (.tup [str (La a b).1,str (La a b).2.1,int (La a b).2.2]):=by
 refine pcd func134 rfl rfl ?_;simp only[go_sem];refine aP (D3 a b I O) ?_;simp only[go_sem];refine aA (fun h=>?_) (fun h=>?_)
 ·have h:iO a b≠0:=by simpa using h
  simp only[go_sem];rw[show La a b=(emp,emp,iO a b)from if_neg h];exact .refl _
 have h:iO a b=0:=by simpa using h
 obtain⟨m,n,rfl,rfl,E,M⟩:=sO h;have F:=iZ E;have J:=iZ M;simp only[go_sem,DM h,cF,Xaa];have e:La (dec m) (dec n)=if n=0 then(emp,emp,10)else(dec (m/n),dec (m%n),0):=by unfold La;rw[if_pos h,cF,cF]
 rw[e];refine aA (fun A=>?_) (fun A=>?_)
 ·have h0:n=0:=(sC (b:=bas) (by decide)).1 (by simpa using A);simp only[go_sem];rw[if_pos h0];exact .refl _
 ·have h0:n≠0:=fun e=>by subst e;rw[eL]at A;simp at A
  simp only[go_sem];rw[if_neg h0];refine aP (Kr m n (by omega) (by omega) (by omega)) ?_;simp only[go_sem];refine aP (D0 (m/n) (by have:=dT (b:=bas) (by decide) (Nat.div_le_self m n);omega)) ?_;simp only[go_sem];refine aP (D0 (m%n) (by have:=dT (b:=bas) (by decide) (Nat.mod_le m n);omega)) ?_;simp only[go_sem];exact .refl _
def Vw(a b:ByteArray)(ha:a.size<=1048576)(A:b.size<=1048576):PC prog 127 [str a,str b] (.tup [str (H9 a b).1,int (H9 a b).2]):=by
 refine pcd func127 rfl rfl ?_;simp only[go_sem];refine aP (D3 a b ha A) ?_;simp only[go_sem];refine aA (fun h=>?_) (fun h=>?_)
 ·have h:iO a b≠0:=by simpa using h
  simp only[go_sem];rw[show H9 a b=(emp,iO a b)from if_neg h];exact .refl _
 have h:iO a b=0:=by simpa using h
 obtain⟨m,n,rfl,rfl,X,Z⟩:=sO h;have T:=iZ X;have U:=iZ Z;simp only[go_sem,DM h,cF];have e:H9 (dec m) (dec n)=szN (Nat.gcd m n):=by unfold H9;rw[if_pos h,cF,cF]
 rw[e];refine⟨fun ρ _=>∃p q:Nat,ρ 6=nl p/\ρ 7=nl q/\(bJ bas p).length<=457/\(bJ bas q).length<=457/\Nat.gcd p q=Nat.gcd m n,fun ρ _=>match ρ 7 with| .sl es=>ofL bas (es.map fun c=>aU (c.getD 0 .any))|_=>0,⟨m,n,by simp only[go_sem],by simp only[go_sem],T,U,rfl⟩,?_⟩;rintro ρ H ⟨p,q,J,M,Y,F,O⟩;have I:∀q:Nat,ofL bas (((bJ bas q).map iJ).map fun c=>aU (c.getD 0 .any))=q:=fun q=>by rw[List.map_map,show((fun c:List AV=>aU (c.getD 0 .any)) ∘ iJ)=id from funext fun n=>by simp[iJ,aU],List.map_id,dR (by decide)]
 simp only[go_sem,J,M,Xaa];refine aA (fun A=>?_) (fun A=>?_)
 ·have E : 0 < q := by
   rcases Xbv q with h0|h0
   ·subst h0;rw[eL]at A;simp at A
   ·exact h0
  simp only[go_sem,J,M];refine aP (Kr p q (by omega) E (by omega)) ?_;simp only[go_sem,J,M];refine⟨⟨q,p%q,rfl,rfl,F,Xag (dT (by decide) (Nat.le_of_lt (Nat.mod_lt p E))) F,?_⟩,?_⟩
  ·rw[<-O,Nat.gcd_comm p q,Nat.gcd_rec q p,Nat.gcd_comm]
  ·rw[I,I];exact Nat.mod_lt p E
 ·have E : q = 0 := by
   have:(bJ bas q).length=0:=by simp at A;simpa using A
   exact(sC (b:=bas) (by decide)).1 (List.eq_nil_of_length_eq_zero this)
  subst E;simp only[go_sem,J,M];rw[Nat.gcd_zero_right]at O;rw[<-O];refine aP (Ag p (by omega)) ?_;simp only[go_sem];exact .refl _
def WZ{b:Nat}(J:0<b){l:List Nat}{q p:Nat}(h:ofL b l<b^q)(E:q<=p)(I:p<l.length):l[p]?=some 0:=by
 obtain⟨x,A⟩:=aO I;rcases Xbv x with h0|h0
 ·rw[A,h0]
 ·exfalso;have F:ofL b l=ofL b (l.take p)+b^p*ofL b (l.drop p):=by have:=mG b (l.take p) (l.drop p);rw[List.take_append_drop,Xah,Nat.min_eq_left (by omega)]at this;exact this
  rw[vQ b A]at F;have h1:b^p*1<=b^p*(x+b*ofL b (l.drop (p+1))):=Nat.mul_le_mul_left _ (by omega);have M:b^q<=b^p:=Xaq J E;omega
def aaE(a b:ByteArray)(ha:a.size<=1048576)(hb:b.size<=1048576):PC prog 220 [str a,str b] (.tup [str (MZ a b).1,int (MZ a b).2]):=by
 refine pcb (fun t=>t == 9) func220 rfl rfl ?_;simp only[go_sem];refine aP (D3 a b ha hb) ?_;simp only[go_sem];refine aA (fun h=>?_) (fun h=>?_)
 ·have h:iO a b≠0:=by simpa using h
  simp only[go_sem];rw[show MZ a b=(emp,iO a b)from if_neg h];exact .refl _
 have h:iO a b=0:=by simpa using h
 obtain⟨m,n,rfl,rfl,hm,hn⟩:=sO h;have ar:=iZ hm;have au:=iZ hn;simp only[go_sem,DM h,cF,Xaa];rw[show MZ (dec m) (dec n)=szN (m*n)by unfold MZ;rw[if_pos h,cF,cF]];have om:=dR (b:=bas) (by decide) m;have on:=dR (b:=bas) (by decide) n;have lm:=dJ (b:=bas) (by decide) m;have ln:=dJ (b:=bas) (by decide) n;have an:(bJ bas (m*n)).length<=(bJ bas m).length+(bJ bas n).length:=by refine lT (by decide) ?_;have h1:=mR (b:=bas) (by decide) lm;have h2:=mR (b:=bas) (by decide) ln;rw[om]at h1;rw[on]at h2;rw[Nat.pow_add];exact Nat.mul_lt_mul'' h1 h2
 obtain⟨x,hx⟩:∃x,bJ bas m=x:=⟨_,rfl⟩;obtain⟨y,hy⟩:∃y,bJ bas n=y:=⟨_,rfl⟩;rw[hx]at om lm ar an;rw[hy]at on ln au an;have ew:IntKind.i64.wrap ((x.length:Int)+(y.length:Int))=((x.length+y.length:Nat):Int):=by rw[bE (by omega)];omega
 simp only[hx,hy,ew];refine⟨by omega,aJ fun j hj=>?_⟩;simp only[go_sem];refine⟨fun ρ H=>∃(i:Nat) (out:List Nat),i<=x.length/\ρ 7=.sl (y.map iJ)/\ρ 9=.os j/\ρ 32=.sl (x.map iJ)/\ρ 33=int x.length/\ρ 34=int i/\H j=some (cL out)/\Lim bas out/\out.length=x.length+y.length/\ofL bas out=ofL bas (x.take i)*ofL bas y,fun ρ _=>x.length-aU (ρ 34),
  ⟨0,List.replicate (x.length+y.length) 0,Xab _,by simp only[go_sem],by simp only[go_sem],by simp only[go_sem],by simp only[go_sem,Xaa],by simp only[go_sem];rfl,?_,Lim.zeros (by decide) _,by simp,by simp[ofL,Sk]⟩,?_⟩
 ·rw[aB];simp only[cL,List.map_replicate,FJ];rfl
 clear hj;rintro ρ H ⟨i,out,hi,Z,T,E,A,F,Rj,ho,av,hv⟩;simp only[go_sem,Z,T,E,A,F];refine aA (fun ac=>?_) (fun ak=>?_)
 ·have ac:=ltB ac;obtain⟨I,ai⟩:=aO ac;have b1:=inB ac;have ax:I<1000000000:=lm I (Xac ai);have ap:out[i+y.length]?=some 0:=by refine WZ (b:=bas) (by decide) (q:=i+y.length) ?_ (Xaf _) (by omega);rw[hv,Nat.pow_add];have h1:=mR (b:=bas) (by decide) (lm.take i);rw[Xah,Nat.min_eq_left hi]at h1;exact Nat.mul_lt_mul'' h1 (mR (b:=bas) (by decide) ln)
  simp only[go_sem,Z,T,E,A,F,aC ai,b1,Xaa];refine⟨fun ρ H=>∃(k c:Nat) (o:List Nat),k<=y.length/\ρ 7=.sl (y.map iJ)/\ρ 9=.os j/\ρ 10=int i/\ρ 11=int I/\ρ 12=int c/\ρ 32=.sl (x.map iJ)/\ρ 33=int x.length/\ρ 34=int i/\ρ 39=.sl (y.map iJ)/\ρ 40=int y.length/\ρ 41=int k/\H j=some (cL o)/\Lim bas o/\o.length=x.length+y.length/\c<1000000000/\ofL bas o+bas^(i+k)*c=ofL bas out+bas^i*(I*ofL bas (y.take k))/\o[i+y.length]?=some 0,fun ρ _=>y.length-aU (ρ 41),
   ⟨0,0,out,Xab _,by simp only[go_sem,Z],by simp only[go_sem,T],by simp only[go_sem],by simp only[go_sem],by simp only[go_sem];rfl,by simp only[go_sem,E],by simp only[go_sem,A],by simp only[go_sem,F],by simp only[go_sem,Z],by simp only[go_sem,Xaa],by simp only[go_sem];rfl,Rj,ho,av,by omega,by simp[ofL],ap⟩,?_⟩
  clear Z T E A F Rj;rintro ρ H ⟨k,c,o,hk,Z,T,U,Y,ae,E,A,F,af,X,ab,Rj,hO,am,hc,hV,hZ⟩;simp only[go_sem,Z,T,U,Y,ae,E,A,F,af,X,ab];refine aA (fun O=>?_) (fun aa=>?_)
  ·have O:=ltB O;obtain⟨J,al⟩:=aO O;have b2:=inB O;have az:J<1000000000:=ln J (Xac al);obtain⟨v,ag⟩:=aO (show i+k<o.length by omega);have ay:v<1000000000:=hO v (Xac ag);have b3:0<=((i+k:Nat):Int)/\((i+k:Nat):Int)<((cL o).es.length:Nat):=by simp only[cL,Xaa];omega
   have ei:IntKind.i64.wrap ((i:Int)+(k:Int))=((i+k:Nat):Int):=by rw[bE (by omega)];omega
   have aj:(cL o).es.getD (i+k) []=iJ v:=aC ag;have aw:I*J<=999999999*999999999:=Nat.mul_le_mul (by omega) (by omega);have aq:=TZ (b:=bas) (by decide) ag al hV;have e1:IntKind.i64.wrap (IntKind.i64.wrap ((v:Int)+IntKind.i64.wrap ((I:Int)*(J:Int)))+(c:Int))=((v+I*J+c:Nat):Int):=by rw[show(I:Int)*(J:Int)=((I*J:Nat):Int)from(Int.natCast_mul I J).symm];generalize I*J=p at *;rw[show IntKind.i64.wrap (p:Int)=(p:Int)from bE (by omega),show IntKind.i64.wrap ((v:Int)+(p:Int))=(v:Int)+p from bE (by omega),bE (by omega)];omega
   have hq:(v+I*J+c)/1000000000<1000000000:=by omega
   have e2:IntKind.i64.wrap ((((v+I*J+c:Nat):Int)).tdiv 1000000000)=(((v+I*J+c)/1000000000:Nat):Int):=by generalize v+I*J+c=p at *;rw[Xbu (by omega),bE (by omega)];omega
   have e3:(((v+I*J+c:Nat):Int)).tmod 1000000000=(((v+I*J+c)%1000000000:Nat):Int):=by rw[Int.tmod_eq_emod_of_nonneg (by omega)];omega
   simp only[go_sem,Z,T,U,Y,ae,E,A,F,af,X,ab,aC al,b2,ei,Rj,b3,aj,e1,e2,e3];have M:i+k<(cL o).es.length:=by simp only[cL,Xaa];omega
   refine⟨rfl,⟨M,Nat.zero_lt_one⟩,by decide,rfl,bO so3 Rj ⟨M,rfl,Xaf 1⟩ ?_⟩;generalize hP:aI H j _=HP;have ah:HP j=some (cL (o.set (i+k) ((v+I*J+c)%bas))):=by rw[<-hP,aB];exact congrArg some (C4 (q:=(v+I*J+c)%bas) ag)
   clear hP Rj;simp only[go_sem,Z,T,U,Y,ae,E,A,F,af,X,ab,e2,aT k];refine⟨by decide,⟨k+1,_,_,O,rfl,rfl,ah,hO.set (Nat.mod_lt _ (by decide)),by simp[am],hq,aq,?_⟩,by simp only[aF];omega⟩;rw[List.getElem?_set_ne (by omega)];exact hZ
  ·have aa:=geB hk aa;subst aa;have ei:IntKind.i64.wrap ((i:Int)+(y.length:Int))=((i+y.length:Nat):Int):=by rw[bE (by omega)];omega
   have M:i+y.length<(cL o).es.length:=by simp only[cL,Xaa];omega
   have b3:0<=((i+y.length:Nat):Int)/\((i+y.length:Nat):Int)<((cL o).es.length:Nat):=by omega
   have aj:(cL o).es.getD (i+y.length) []=iJ 0:=aC hZ;have e1:IntKind.i64.wrap (((0:Nat):Int)+(c:Int))=(c:Int):=by rw[bE (by omega)];omega
   simp only[go_sem,Z,T,U,Y,ae,E,A,F,af,X,ab,Xaa,ei,Rj,b3,aj,e1];refine⟨rfl,⟨M,Nat.zero_lt_one⟩,rfl,bO so3 Rj ⟨M,rfl,Xaf 1⟩ ?_⟩;generalize hP:aI H j _=HP;have ah:HP j=some (cL (o.set (i+y.length) c)):=by rw[<-hP,aB];exact congrArg some (C4 (q:=c) hZ)
   clear hP Rj;have ao:=W7 (b:=bas) hZ hV;simp only[go_sem,Z,T,U,Y,ae,E,A,F,af,X,ab,aT i];refine⟨⟨i+1,_,ac,rfl,ah,hO.set hc,by simp[am],?_⟩,by simp only[aF];omega⟩;rw[ao,hv,iY bas ai,Nat.add_mul,Nat.mul_assoc]
 ·have ak:=geB hi ak;subst ak;simp only[go_sem,T];rw[Xad,om,on]at hv;refine PC.useF [j] (.cons _ _ _ _ (.row _ _ _ (by simp only[Xax,if_true];exact Rj) (ConvE.refl _)) .nil) (GW ho (by omega) hv) ?_;simp only[go_sem];refine aP (Ag (m*n) (by omega)) ?_;simp only[go_sem];exact .refl _
end Nu
namespace Nu
open Go.Proofs.Tryz
open Go.Nu
open Go.RowKit (Below)
def JU(s:ByteArray):Lib.hasPrefix (bl s) [45]=gR s:=by
 unfold Lib.hasPrefix gR;cases bl s with
 | nil=>rfl
 | cons c r=>
  by_cases h:c=45
  ·subst h;rfl
  ·have h1:(some c == some (45:UInt8))=false:=by simpa using h
   have A:((45:UInt8) == c)=false:=by simpa using Ne.symm h
   simp only[List.isPrefixOf,List.head?_cons,h1,A,Bool.false_and]
def FA(s:ByteArray):(⟨(Lib.trimPrefix (bl s) [45]).toArray⟩:ByteArray)=dY s:=by
 unfold Lib.trimPrefix dY;rw[JU];split
 ·rfl
 ·exact abT s
def Nf(s:ByteArray):PC prog 175 [str s,str ⟨#[45]⟩] (.tup [str (dY s),boo (gR s)]):=by
 refine PC.lib (a:=[.string s,.string ⟨#[45]⟩]) (v:=.tuple #[.string (dY s),.bool (gR s)]) (fun S w=>⟨_,rfl,⟨_,_,rfl,rfl,⟨_,_,rfl,rfl,rfl⟩⟩⟩) fun w _=>(Tryz.strings_CutPrefix s ⟨#[45]⟩ w).mono fun e w' ⟨A,E⟩=>?_
 rw[E];refine⟨A.trans ?_,Below.refl _ _⟩;rw[show s.data.toList=bl s from rfl,show(⟨#[45]⟩:ByteArray).data.toList=[45]from rfl,FA,JU]
def vW(s:ByteArray):PC prog 128 [str s,str ⟨#[45]⟩] (str (dY s)):=by
 refine PC.lib (a:=[.string s,.string ⟨#[45]⟩]) (v:=.string (dY s)) (fun S w=>rfl) fun w _=>(Tryz.strings_TrimPrefix s ⟨#[45]⟩ w).mono fun e w' ⟨A,E⟩=>?_
 rw[E];refine⟨A.trans ?_,Below.refl _ _⟩;rw[show s.data.toList=bl s from rfl,show(⟨#[45]⟩:ByteArray).data.toList=[45]from rfl,FA]
def Og(n:Int)(h0: -9223372036854775808<=n)(h1:n<=9223372036854775807):PC prog 140 [int n] (str (zed n)):=by
 refine PC.lib (a:=[.int .i64 n]) (v:=.string (zed n)) (fun S w=>rfl) fun w A=>(Tryz.strconv_Itoa n h0 h1 w (Wc A)).mono fun e w' ⟨E,k,os,F⟩=>?_
 rw[F];exact⟨E,lA k os⟩
def Mu(a b:ByteArray):PC prog 181 [str a,str b] (int (Lib.compareBytes (bl a) (bl b))):=by
 refine PC.lib (a:=[.string a,.string b]) (v:=.int .i64 (Lib.compareBytes (bl a) (bl b))) (fun S w=>rfl) fun w _=>(Tryz.strings_Compare a b w).mono fun e w' ⟨A,E⟩=>?_
 rw[E];exact⟨A,Below.refl _ _⟩
def EL:(⟨#[48]⟩:ByteArray)=dec 0:=kZ (by rw[lU,Lib.decDigits_one (by omega)];rfl)
def Dk:(⟨#[49]⟩:ByteArray)=dec 1:=kZ (by rw[lU,Lib.decDigits_one (by omega)];rfl)
def tS(s:ByteArray):(bl s == [48])=eqB s (dec 0):=by unfold eqB;rw[<-EL];rfl
def OZ(s:ByteArray):(bl s == [49])=eqB s (dec 1):=by unfold eqB;rw[<-Dk];rfl
def Hu(s:ByteArray):(dY s).size<=s.size:=by
 unfold dY;split
 ·rw[<-eV,<-eV,iW,List.length_drop];omega
 ·exact Xaf _
def Ar(s:ByteArray)(h:s.size<=1048576):PC prog 132 [str s] (.tup [boo (gR s),str (dY s),boo (eT s)]):=by refine pcd func132 rfl rfl ?_;simp only[go_sem];refine aP (Nf s) ?_;simp only[go_sem];refine aP (AK (dY s) (by have:=Hu s;omega)) ?_;simp only[go_sem,tS];exact .refl _
def Ud(s:ByteArray)(h:s.size<=1048576):PC prog 123 [str s] (boo (eT s)):=by refine pcd func123 rfl rfl ?_;simp only[go_sem];refine aP (Ar s h) ?_;simp only[go_sem];exact .refl _
def abL(n:Int)(h0: -9223372036854775808<=n)(h1:n<=9223372036854775807):PC prog 93 [int n] (str (zed n)):=by refine pcd func93 rfl rfl ?_;simp only[go_sem];refine aP (Og n h0 h1) ?_;simp only[go_sem];exact .refl _
def W6(s:ByteArray)(h:s.size<=1048576):PC prog 87 [str s] (int (Jg s)):=by
 refine pcd func87 rfl rfl ?_;simp only[go_sem];refine aP (Ar s h) ?_;simp only[go_sem,tS];refine aA (fun E=>?_) (fun E=>?_)
 ·simp only[go_sem];refine cI ?_;unfold Jg;by_cases A:eT s=true
  ·rw[if_pos A];have J:eqB (dY s) (dec 0)=true:=by rw[A]at E;simpa using E
   have:jG s=0:=by unfold jG;rw[qI.1 J,cF];split <;> rfl
   rw[this];rfl
  ·rw[if_neg A]
 ·have A:eT s=true/\eqB (dY s) (dec 0)=false:=by simpa using E
  have I:fC (dY s)=true:=by have:=A.1;unfold eT at this;simp only[Xap]at this;exact this.1
  have M:0<eP (dY s):=by
   rcases Xbv (eP (dY s))with h0|h0
   ·have:=jN I;rw[h0]at this;exact absurd this.symm (oU.1 A.2)
   ·exact h0
  simp only[go_sem];refine aA (fun F=>?_) (fun F=>?_)
  ·simp only[go_sem];refine cI ?_;unfold Jg jG;rw[if_pos A.1,if_pos F,Int.sign_eq_neg_one_of_neg (by omega)]
  ·simp only[go_sem];refine cI ?_;unfold Jg jG;rw[if_pos A.1,if_neg (by rw[F];simp),Int.sign_eq_one_of_pos (by omega)]
def sg(m:Bool)(n:Nat):Int:=if m=true then -(n:Int)else n
def Xw(m:Bool)(n:Nat):(if(m&& !eqB (dec n) (dec 0))=true then(⟨#[45]⟩:ByteArray)++dec n else dec n)=zed (sg m n):=by
 unfold sg;by_cases A:n=0
 ·subst A;rw[show eqB (dec 0) (dec 0)=true from qI.2 rfl];simp only[Xbr,Bool.and_false,Xar,if_false];rw[<-fF];split <;> rfl
 ·rw[show eqB (dec n) (dec 0)=false from oU.2 fun e=>A (tI.1 e)];cases m with
  | true=>simp only[Bool.not_false,Bool.and_true,if_true];rw[C1 (by omega)];refine kZ ?_;rw[BJ,iW,lU];rfl
  | false=>simp only[Bool.false_and,Xar,if_false];rw[fF]
def OQ(m:Bool)(n:Nat)(J:(dec n).size<=1048576):PC prog 137 [.agg [boo m,str (dec n)]] (str (zed (sg m n))):=by
 refine pcb (fun t=>t == 1) func137 rfl rfl ?_;simp only[go_sem];refine aJ fun j I=>?_
 have R:=aB bG j (some ⟨231,2,[[boo m,str (dec n)]]⟩);generalize aI bG j _=H1 at R |-;simp only[go_sem,R];have A:=Xw m n;have F:(m&& !bl (dec n) == [48])=(m&& !eqB (dec n) (dec 0)):=by rw[<-tS]
 rw[F];refine aA (fun E=>?_) (fun E=>?_)
 ·rw[if_pos E]at A;simp only[go_sem,R];refine⟨by show((1+(dec n).size:Nat):Int)<=9223372036854775807;omega,?_⟩;exact cS A
 ·rw[if_neg (by rw[E];simp)]at A;simp only[go_sem,R];exact cS A
def Uu(m:Bool)(n:Nat):(sg m n).natAbs=n:=by unfold sg;split <;> omega
def DA(m:Bool)(n:Nat):PC prog 180 [.agg [boo m,str (szN n).1],int (szN n).2] (.tup [str (szZ (sg m n)).1,int (szZ (sg m n)).2]):=by
 by_cases A:n<cU
 ·have I:=(gH n).2 A;rw[A6 A,show szZ (sg m n)=(zed (sg m n),0)from if_pos (by rw[Uu];exact A)];refine pcb (fun t=>t == 2) func180 rfl rfl ?_;simp only[go_sem];refine aJ fun j F=>?_
  have R:=aB bG j (some ⟨231,2,[[boo m,str (dec n)]]⟩);generalize aI bG j _=H1 at R |-;simp only[go_sem,R];refine aA (fun E=>by cases E) (fun _=>?_);simp only[go_sem,R];refine aP (OQ m n (by omega)) ?_;simp only[go_sem];exact .refl _
 ·rw[show szN n=(emp,4)from if_neg A,show szZ (sg m n)=(emp,4)from if_neg (by rw[Uu];exact A)];refine pcb (fun t=>t == 2) func180 rfl rfl ?_;simp only[go_sem];refine aJ fun j F=>?_
  simp only[go_sem];refine aA (fun E=>?_) (fun E=>by cases E);simp only[go_sem];exact .refl _
def CL(s:ByteArray):List AV:=[boo (gR s),str (dY s)]
def Jv(s:ByteArray):(CL s).length=2:=(rfl)
def Zr(s:ByteArray):(CL s).getD 0 .any=boo (gR s):=(rfl)
def Zm(s:ByteArray):(CL s).getD 1 .any=str (dY s):=(rfl)
def TM(s:ByteArray):(CL s).take 2=CL s:=(rfl)
attribute [go_sem] Jv Zr Zm TM
def CV(l:List ByteArray):Row:=⟨231,2,l.map CL⟩
def Uj(s:ByteArray):Bool:=decide ((dY s).size>4096)
def Ff(l:List ByteArray):Int:=if l.any (fun s=> !eT s)=true then 3 else if l.any Uj=true then 4 else 0
def zL(l:List ByteArray):List (List AV):=if Ff l=0 then l.map CL else[]
def Di{α:Type}{q:α->Bool}{l:List α}{k:Nat}{c:α}(h:l[k]?=some c)(A:q c=true):l.any q=true:=Xan.2 ⟨c,Xac h,A⟩
def AJ{α:Type}{q:α->Bool}{l:List α}(h:∀c∈l,q c=false):l.any q=false:=by rw[Xbb];intro c A;rw[h c A];simp
def X4(l:List ByteArray)(hl:l.length<=1048576)(hs:∀s∈l,s.size<=1048576):PC prog 133 [.sl (l.map Go.Aw.D.dB)] (.tup [.sl (zL l),int (Ff l)]):=by
 refine pcb (fun t=>t == 4) func133 rfl rfl ?_;simp only[go_sem];refine aJ fun j hj=>?_
 simp only[go_sem];refine⟨fun ρ H=>∃(k j:Nat),k<=l.length/\ρ 12=.sl (l.map Go.Aw.D.dB)/\ρ 13=int l.length/\ρ 4=.os j/\ρ 14=int k/\H j=some (CV (l.take k))/\∀s∈l.take k,eT s=true,fun ρ _=>l.length-aU (ρ 14),
  ⟨0,j,Xab _,by simp only[go_sem],by simp only[go_sem,Xaa],by simp only[go_sem],by simp only[go_sem];rfl,aB _ _ _,by simp⟩,?_⟩
 clear hj j;rintro ρ H ⟨k,j,hk,O,M,I,J,U,hz⟩;simp only[go_sem,O,M,I,J];refine aA (fun A=>?_) (fun F=>?_)
 ·have A:=ltB A;obtain⟨s,E⟩:=aO A;have b1:=inB A;simp only[go_sem,O,M,I,J,aC E,b1];refine aP (Ar s (hs s (Xac E))) ?_;simp only[go_sem,O,M,I,J];refine aA (fun hb=>?_) (fun hb=>?_)
  ·simp only[go_sem];have e:Ff l=3:=by unfold Ff;rw[if_pos (Di E hb)]
   rw[show zL l=[]from if_neg (by rw[e];decide),e];exact .refl _
  ·simp only[go_sem,O,M,I,J];refine bT U ⟨rfl,rfl⟩ ⟨rfl,trivial⟩ (by simp only[CV,Xaa,Xah,Xae,List.length_nil];omega) (fun j' ag=>?_);simp only[go_sem,O,M,I,J,aT k];refine⟨⟨k+1,j',A,rfl,rfl,?_,fI E (by simpa using hb) hz⟩,by simp only[aF];omega⟩;rw[aB];simp only[CV,aZ E,Xak,Xat,List.map_nil];rfl
 ·have F:=geB hk F;subst F;rw[Xad]at U hz;have hR:l.any (fun s=> !eT s)=false:=AJ fun s hs=>by rw[hz s hs];rfl
  have ac:((CV l).es.length:Int)=l.length:=by simp[CV]
  simp only[go_sem,I,U,ac];refine⟨fun ρ H=>∃(k:Nat),k<=l.length/\ρ 4=.os j/\ρ 33=.os j/\ρ 34=int l.length/\ρ 35=int k/\H j=some (CV l)/\∀s∈l.take k,Uj s=false,fun ρ _=>l.length-aU (ρ 35),
   ⟨0,Xab _,by simp only[go_sem,I],by simp only[go_sem],by simp only[go_sem],by simp only[go_sem];rfl,U,by simp⟩,?_⟩
  clear I U O M J;rintro ρ H ⟨k,hk,I,Y,X,T,U,aa⟩;simp only[go_sem,I,Y,X,T];refine aA (fun A=>?_) (fun F=>?_)
  ·have A:=ltB A;obtain⟨s,E⟩:=aO A;have b1:=inB A;have af:(CV l).es.getD k []=CL s:=aC E;have b2:0<=(k:Int)/\(k:Int)<((CV l).es.length:Nat):=by simp only[CV,Xaa];exact b1
   simp only[go_sem,I,Y,X,T,U,b2,af];have Z:k<(CV l).es.length:=by simp only[CV,Xaa];exact A
   refine⟨rfl,⟨Z,Xaf 2⟩,?_⟩;refine aJ fun i hi=>?_
   simp only[go_sem,I,Y,X,T];have ab:j≠i:=bC U hi;refine aN (aB _ _ _) (by simp[Jv]) ?_;generalize hG:aI (aI _ i _) i _=HG;have Ri:HG i=some (⟨231,2,[CL s]⟩:Row):=by rw[<-hG,aB];rfl
   have ae:HG j=some (CV l):=by rw[<-hG,aD _ _ _ _ ab,aD _ _ _ _ ab];exact U
   clear hG hi U;simp only[go_sem,I,Y,X,T,Ri];have hd:decide (((dY s).size:Int)>4096)=Uj s:=by unfold Uj;rw[decide_eq_decide];omega
   rw[hd];refine aA (fun hb=>?_) (fun hb=>?_)
   ·simp only[go_sem];have e:Ff l=4:=by unfold Ff;rw[if_neg (by rw[hR];simp),if_pos (Di E hb)]
    rw[show zL l=[]from if_neg (by rw[e];decide),e];exact .refl _
   ·simp only[go_sem,I,Y,X,T,aT k];exact⟨⟨k+1,A,rfl,ae,fI E hb aa⟩,by simp only[aF];omega⟩
  ·have F:=geB hk F;subst F;rw[Xad]at aa;simp only[go_sem,I];have e:Ff l=0:=by unfold Ff;rw[if_neg (by rw[hR];simp),if_neg (by rw[AJ aa];simp)]
   rw[show zL l=l.map CL from if_pos e,e];exact .tup _ _ (.cons _ _ _ _ (.row _ _ _ U (ConvE.refl _)) (ConvL.refl _))
end Nu
namespace Nu
open Go.Proofs.Tryz
open Go.Nu
def GQ:∀{l r:List UInt8},l.all isD=true->r.all isD=true->l.length=r.length->Lib.compareBytes l r=iC (fQ l) (fQ r)
 | [],[],_,_,_=>by rw[qB rfl];rfl
 | [],_::_,_,_,h=>by simp at h
 | _::_,[],_,_,h=>by simp at h
 | a::l,b::r,hl,hr,h=>by
  simp only[List.all_cons,Xap]at hl hr;simp only[Xae,Nat.add_right_cancel_iff]at h;have ih:=GQ hl.2 hr.2 h;have I:fQ (a::l)=(a.toNat-48)*10^l.length+fQ l:=by have:=vG [a] l;simpa[fQ]using this
  have O:fQ (b::r)=(b.toNat-48)*10^r.length+fQ r:=by have:=vG [b] r;simpa[fQ]using this
  have h1:=Dc hl.2;have U:=Dc hr.2;have X:=oB.1 hl.1;have Y:=oB.1 hr.1;rw[Lib.compareBytes,I,O,<-h]at *;have F:a<b↔a.toNat<b.toNat:=UInt8.lt_iff_toNat_lt;have E:b<a↔b.toNat<a.toNat:=UInt8.lt_iff_toNat_lt;split
  ·rename_i A;rw[F]at A;have:(a.toNat-48+1)*10^l.length<=(b.toNat-48)*10^l.length:=Nat.mul_le_mul_right _ (by omega);rw[Nat.add_mul]at this;rw[iK (by omega)]
  ·split
   ·rename_i A;rw[E]at A;have:(b.toNat-48+1)*10^l.length<=(a.toNat-48)*10^l.length:=Nat.mul_le_mul_right _ (by omega);rw[Nat.add_mul]at this;rw[iP (by omega)]
   ·rename_i M J;rw[F]at M;rw[E]at J;have:a.toNat=b.toNat:=by omega
    rw[ih,this];generalize (b.toNat-48)*10^l.length=p;unfold iC;have T:(((p+fQ l:Nat):Int)<((p+fQ r:Nat):Int))↔((fQ l:Nat):Int)<((fQ r:Nat):Int):=by omega
    have c2:(((p+fQ r:Nat):Int)<((p+fQ l:Nat):Int))↔((fQ r:Nat):Int)<((fQ l:Nat):Int):=by omega
    simp only[T,c2]
def DX(m n:Nat):PC prog 139 [str (dec m),str (dec n)] (int (iC m n)):=by
 have F:=D4 m;have I:=D4 n;have A:∀{p q:Nat},(Lib.decDigits p).length<(Lib.decDigits q).length->p<q:=fun {p q} h=>by
  have h1:=(pD (n:=p) (k:=(Lib.decDigits p).length) (qY p)).1 (Xaf _);rcases Xay p q with E|E
  ·exact E
  ·have:=(pD (n:=q) (k:=(Lib.decDigits p).length) (qY p)).2 (by omega);omega
 refine pcd func139 rfl rfl ?_;simp only[go_sem];refine aA (fun h=>?_) (fun h=>?_)
 ·have h:(dec m).size≠(dec n).size:=neN h;simp only[go_sem];refine aA (fun E=>?_) (fun E=>?_)
  ·have E:=ltB E;simp only[go_sem];have:=A (p:=m) (q:=n) (by omega);exact cI (by rw[iK (by omega)])
  ·have E:¬(dec m).size<(dec n).size:=by have:=of_decide_eq_false E;omega
   simp only[go_sem];have:=A (p:=n) (q:=m) (by omega);exact cI (by rw[iP (by omega)])
 ·have h:(dec m).size=(dec n).size:=eqN h;simp only[go_sem];refine aP (Mu (dec m) (dec n)) ?_;simp only[go_sem];refine cI ?_;rw[lU,lU,GQ (qG m) (qG n) (by omega),EH,EH]
def Pv(a b:ByteArray)(A:fC a=true)(E:fC b=true):PC prog 139 [str a,str b] (int (iC (eP a) (eP b))):=by
 have:=DX (eP a) (eP b)
 rwa [jN A,jN E]at this
def A8{s:ByteArray}(h:eT s=true):fC (dY s)=true:=by unfold eT at h;simp only[Xap]at h;exact h.1
def Nn(a b:ByteArray)(U:a.size<=1048576)(Y:b.size<=1048576):PC prog 92 [str a,str b] (int (Uy a b)):=by
 refine pcd func92 rfl rfl ?_;simp only[go_sem];refine aP (Ar a U) ?_;simp only[go_sem];refine aP (Ar b Y) ?_;simp only[go_sem];refine aA (fun h=>?_) (fun h=>?_)
 ·simp only[go_sem];refine cI ?_;unfold Uy;rw[if_neg];rintro⟨h1,A⟩;rw[h1,A]at h;cases h
 have J:eT a=true/\eT b=true:=by simpa using h
 have O:=A8 J.1;have M:=A8 J.2;have F:∀{s:ByteArray},eT s=true->gR s=true->0<eP (dY s):=fun {s} h1 A=>by
  have E:=h1;unfold eT at E;simp only[A,Xbe,Xap,Xbh,oU]at E;rcases Xbv (eP (dY s))with h0|h0
  ·have:=jN E.1;rw[h0]at this;exact absurd this.symm E.2
  ·exact h0
 have T:Uy a b=iC (jG a) (jG b):=if_pos J;rw[T];unfold jG;simp only[go_sem];refine aA (fun A=>?_) (fun A=>?_)
 ·have A:gR a=true/\gR b=true:=by simpa using A
  simp only[go_sem];refine aP (Pv _ _ M O) ?_;simp only[go_sem];refine cI ?_;rw[if_pos A.1,if_pos A.2];unfold iC;have X:(((eP (dY b):Nat):Int)<((eP (dY a):Nat):Int))↔(-((eP (dY a):Nat):Int)< -((eP (dY b):Nat):Int)):=by omega
  have c2:(((eP (dY a):Nat):Int)<((eP (dY b):Nat):Int))↔(-((eP (dY b):Nat):Int)< -((eP (dY a):Nat):Int)):=by omega
  simp only[X,c2]
 ·simp only[go_sem];refine aA (fun E=>?_) (fun E=>?_)
  ·have I:gR b=false:=by rw[E]at A;simpa using A
   have:=F J.1 E;simp only[go_sem];refine cI ?_;rw[if_pos E,if_neg (by rw[I];simp),iK (by omega)]
  ·simp only[go_sem];refine aA (fun I=>?_) (fun I=>?_)
   ·have:=F J.2 I;simp only[go_sem];refine cI ?_;rw[if_neg (by rw[E];simp),if_pos I,iP (by omega)]
   ·simp only[go_sem];refine aP (Pv _ _ O M) ?_;simp only[go_sem];refine cI ?_;rw[if_neg (by rw[E];simp),if_neg (by rw[I];simp)]
def hJ(m:Bool)(n:Nat):List AV:=[boo m,str (dec n)]
def BE(m:Bool)(n:Nat):(hJ m n).length=2:=(rfl)
def Xm(m:Bool)(n:Nat):(hJ m n).getD 0 .any=boo m:=(rfl)
def X1(m:Bool)(n:Nat):(hJ m n).getD 1 .any=str (dec n):=(rfl)
def Q1(m:Bool)(n:Nat):(hJ m n).take 2=hJ m n:=(rfl)
attribute [go_sem] BE Xm X1 Q1
def KT{m n:Nat}(A:m<cU)(E:n<cU):Nk (dec m) (dec n)=szN (m+n):=by unfold Nk;rw[if_pos (wL A E),cF,cF]
def JQ{m n:Nat}(A:m<cU)(E:n<cU)(h:n<=m):Mr (dec m) (dec n)=szN (m-n):=by unfold Mr;rw[if_pos (wL A E),cF,cF,if_neg (by omega)]
def dU{m:Nat}(A:m<cU):(dec m).size<=1048576:=by have:=(gH m).2 A;omega
def abB(a b:Bool)(m n:Nat)(Z:m<cU)(Y:n<cU):PC prog 138 [.agg (hJ a m),.agg (hJ b n)] (.tup [str (szZ (sg a m+sg b n)).1,int (szZ (sg a m+sg b n)).2]):=by
 refine pcb (fun t=>t == 2||t == 3) func138 rfl rfl ?_;simp only[go_sem];refine aJ fun i hi=>?_
 simp only[go_sem];refine aJ fun j hj=>?_
 have F:=aB bG i (some ⟨231,2,[hJ a m]⟩);have I:i≠j:=bC F hj;have E:=aB (aI bG i (some ⟨231,2,[hJ a m]⟩)) j (some ⟨231,2,[hJ b n]⟩);have A:(aI (aI bG i (some ⟨231,2,[hJ a m]⟩)) j (some ⟨231,2,[hJ b n]⟩)) i=some ⟨231,2,[hJ a m]⟩:=by rw[aD _ _ _ _ I];exact F
 generalize aI (aI bG i _) j _=H1 at *;clear F;simp only[go_sem,A,E];refine aA (fun h=>?_) (fun h=>?_)
 ·have M:a=b:=by simpa using h
  subst M;simp only[go_sem,A,E];refine aP (VT (dec m) (dec n) (dU Z) (dU Y)) ?_;rw[KT Z Y];simp only[go_sem,A,E];refine aP (DA a (m+n)) ?_;simp only[go_sem];have e:sg a (m+n)=sg a m+sg a n:=by unfold sg;split <;> omega
  rw[e];exact .refl _
 have M:b= !a:=by cases a <;> cases b <;> simp_all
 subst M;simp only[go_sem,A,E];refine aP (DX m n) ?_;simp only[go_sem,A,E];refine gT (fun U H'=>∃(X b':Bool) (p q:Nat),p<cU/\q<cU/\q<=p/\sg X (p-q)=sg a m+sg (!a) n/\U 2=.op i 0 0/\U 3=.op j 0 0/\H' i=some (⟨231,2,[hJ X p]⟩:Row)/\H' j=some (⟨231,2,[hJ b' q]⟩:Row)) ?_ fun K hK=>aA (fun J=>?_) (fun J=>?_)
 rotate_left
 ·have ac : m < n := by
   rcases Xay m n with h|h
   ·exact h
   ·exfalso;have J:=of_decide_eq_true J;unfold iC at J;rw[if_neg (by omega)]at J;split at J <;> omega
  simp only[go_sem,A,E];refine aN A (by simp[BE]) ?_;generalize O:aI H1 i _=HP;have F:HP i=some (⟨231,2,[hJ (!a) n]⟩:Row):=by rw[<-O,aB];rfl
  have T:HP j=some (⟨231,2,[hJ (!a) n]⟩:Row):=by rw[<-O,aD _ _ _ _ (Ne.symm I)];exact E
  clear O;simp only[go_sem,F,T];refine aN T (by simp[BE]) ?_;generalize O:aI HP j _=HQ;have S3:HQ j=some (⟨231,2,[hJ a m]⟩:Row):=by rw[<-O,aB];rfl
  have S2:HQ i=some (⟨231,2,[hJ (!a) n]⟩:Row):=by rw[<-O,aD _ _ _ _ I];exact F
  clear O;simp only[go_sem];refine hK _ _ ⟨!a,a,n,m,Y,Z,by omega,?_,by simp only[go_sem],by simp only[go_sem],S2,S3⟩;unfold sg;cases a <;> simp <;> omega
 ·have aa : n <= m := by
   rcases Xay m n with h|h
   ·exact absurd (by rw[iK (by omega)];decide) (of_decide_eq_false J)
   ·exact h
  simp only[go_sem];refine hK _ _ ⟨a,!a,m,n,Z,Y,aa,?_,by simp only[go_sem],by simp only[go_sem],A,E⟩;unfold sg;cases a <;> simp <;> omega
 clear A E;rintro ρ H ⟨X,b',p,q,hp,hq,ab,hv,h2,h3,F,E⟩;simp only[go_sem,h2,h3,F,E];refine aP (Vr (dec p) (dec q) (dU hp) (dU hq)) ?_;rw[JQ hp hq ab];simp only[go_sem,h2,h3,F,E];refine aP (DA X (p-q)) ?_;simp only[go_sem];rw[hv];exact .refl _
def Ku(a b:ByteArray):Ff [a,b]=nM a b:=by unfold Ff nM Uj;simp only[List.any_cons,List.any_nil,Bool.or_false]
def Vm(n:Int):CL (zed n)=hJ (decide (n<0)) n.natAbs:=by unfold CL hJ;rw[yX,lO]
def Vo(n:Int):sg (decide (n<0)) n.natAbs=n:=by
 unfold sg;by_cases h:n<0
 ·simp[h];omega
 ·simp[h];omega
def N2{m n:Int}(h:nM (zed m) (zed n)=0):zL [zed m,zed n]=[hJ (decide (m<0)) m.natAbs,hJ (decide (n<0)) n.natAbs]:=by unfold zL;rw[Ku,if_pos h];simp only[Xat,List.map_nil,Vm]
def Ec(a b:ByteArray)(A:a.size<=1048576)(E:b.size<=1048576):PC prog 133 [.sl [[str a],[str b]]] (.tup [.sl (zL [a,b]),int (nM a b)]):=by
 have:=X4 [a,b] (by simp) (by simp[A,E])
 rwa [Ku]at this
def Wl(a b:ByteArray)(E:a.size<=1048576)(I:b.size<=1048576):PC prog 90 [str a,str b] (.tup [str (EX a b).1,int (EX a b).2]):=by
 refine pcd func90 rfl rfl ?_;simp only[go_sem];refine aP (Ec a b E I) ?_;simp only[go_sem];refine aA (fun h=>?_) (fun h=>?_)
 ·have h:nM a b≠0:=by simpa using h
  simp only[go_sem];rw[show EX a b=(emp,nM a b)from if_neg h];exact .refl _
 have h:nM a b=0:=by simpa using h
 have e:EX a b=szZ (jG a+jG b):=if_pos h;rw[e];obtain⟨m,n,rfl,rfl,A,F⟩:=Bc h;rw[dE,dE,N2 h];simp only[go_sem];refine dD (by rfl) (by kernel_rfl) ?_;simp only[go_sem,Xae,List.length_nil]
 repeat (refine⟨by first|decide|omega,?_⟩)
 refine⟨_,(abB _ _ _ _ A F).q rfl,?_⟩;simp only[go_sem];rw[Vo,Vo];exact .refl _
def U6{m n:Nat}(A:m<cU)(E:n<cU):MZ (dec m) (dec n)=szN (m*n):=by unfold MZ;rw[if_pos (wL A E),cF,cF]
def aaH(a b:ByteArray)(J:a.size<=1048576)(M:b.size<=1048576):PC prog 202 [str a,str b] (.tup [str (wN a b).1,int (wN a b).2]):=by
 refine pcd func202 rfl rfl ?_;simp only[go_sem];refine aP (Ec a b J M) ?_;simp only[go_sem];refine aA (fun h=>?_) (fun h=>?_)
 ·have h:nM a b≠0:=by simpa using h
  simp only[go_sem];rw[show wN a b=(emp,nM a b)from if_neg h];exact .refl _
 have h:nM a b=0:=by simpa using h
 have e:wN a b=szZ (jG a*jG b):=if_pos h;rw[e];obtain⟨m,n,rfl,rfl,E,F⟩:=Bc h;rw[dE,dE,N2 h];simp only[go_sem];refine dD (by rfl) (by kernel_rfl) ?_;simp only[go_sem,Xae,List.length_nil]
 repeat (refine⟨by first|decide|omega,?_⟩)
 refine⟨_,(aaE (dec m.natAbs) (dec n.natAbs) (dU E) (dU F)).q rfl,?_⟩;rw[U6 E F];simp only[go_sem];refine dD (by rfl) (by kernel_rfl) ?_;simp only[go_sem,Xae,List.length_nil]
 repeat (refine⟨by first|decide|omega,?_⟩)
 refine⟨_,(DA _ (m.natAbs*n.natAbs)).q rfl,?_⟩;simp only[go_sem];have I:sg (!(decide (m<0) == decide (n<0))) (m.natAbs*n.natAbs)=m*n:=by
  unfold sg;rw[Int.natCast_mul];by_cases h1:m<0 <;> by_cases A:n<0
  ·simp only[h1,A,decide_true,beq_self_eq_true,Xbr,Xar,if_false];rw[Xbj (by omega),Xbj (by omega),Int.neg_mul_neg]
  ·simp only[h1,A,decide_true,decide_false];rw[if_pos (show(!(true == false))=true from rfl),Xbj (by omega),Xbk (by omega),Int.neg_mul,Int.neg_neg]
  ·simp only[h1,A,decide_true,decide_false];rw[if_pos (show(!(false == true))=true from rfl),Xbj (a:=n) (by omega),Xbk (by omega),Int.mul_neg,Int.neg_neg]
  ·simp only[h1,A,decide_false,beq_self_eq_true,Xbr,Xar,if_false];rw[Xbk (by omega),Xbk (by omega)]
 rw[I];exact .refl _
def yY{P:Program}{C:jI}{PC:FuncId->List AV->aG->AV->Prop}{mt:Nat->Bool}{ops:Array Oper}{K:Env->aG->Prop}{m:Nat}{ρ:Env}{H:aG}(J:Env->aG->Prop)(h1:∀ρ H,J ρ H->K ρ H)
 (A:∀K':Env->aG->Prop,(∀ρ H,J ρ H->K' ρ H)->qF P C PC mt ops K' m ρ H):qF P C PC mt ops K m ρ H:=A K h1
abbrev Bp(A:List AV):Row:=⟨231,2,[A]⟩
abbrev zN:Row:=Bp [.v (.bool false),.v (.string ByteArray.empty)]
def AG{A:List AV}(h:A.length=2):(⟨231,2,[List.take 2 A++List.drop (List.take 2 A).length [AV.v (.bool false),AV.v (.string ByteArray.empty)]]⟩:Row)=Bp A:=by rw[Xam (by omega),h];simp
def L4{m n:Int}(M:n≠0)(F:decide (m<0)≠decide (n<0))(O:m.natAbs%n.natAbs≠0):
  m.fdiv n= -((m.natAbs/n.natAbs+1:Nat):Int)/\m.fmod n=sg (decide (n<0)) (n.natAbs-m.natAbs%n.natAbs):=by
 have e:=Nat.mod_add_div m.natAbs n.natAbs;have J:=Nat.mod_lt m.natAbs (show 0<n.natAbs by omega);generalize m.natAbs/n.natAbs=q at *;generalize m.natAbs%n.natAbs=r at *;have E:(r:Int)+(n.natAbs:Int)*(q:Int)=(m.natAbs:Int):=by rw[<-Int.natCast_mul,<-Int.natCast_add,e]
 unfold sg;rcases Int.lt_or_gt_of_ne M with h|h
 ·have I:¬m<0:=fun A=>F (by simp[h,A])
  rw[Xbj (a:=n) (by omega),Xbk (a:=m) (by omega)]at E;refine(Int.fdiv_fmod_unique' h).2 ⟨?_,?_,?_⟩
  ·rw[if_pos (by simpa using h)];have:(n* -((q+1:Nat):Int))= -n*q-n:=by grind
   rw[this];omega
  ·rw[if_pos (by simpa using h)];omega
  ·rw[if_pos (by simpa using h)];omega
 ·have I : m < 0 := by
   rcases Int.lt_or_le m 0 with A|A
   ·exact A
   ·exact absurd (by simp;omega) F
  rw[Xbk (a:=n) (by omega),Xbj (a:=m) (by omega)]at E;refine(Int.fdiv_fmod_unique h).2 ⟨?_,?_,?_⟩
  ·rw[if_neg (by simp;omega)];have:(n* -((q+1:Nat):Int))= -(n*q)-n:=by grind
   rw[this];omega
  ·rw[if_neg (by simp;omega)];omega
  ·rw[if_neg (by simp;omega)];omega
def Tl{m n:Int}(M:n≠0)(h0:decide (m<0)=decide (n<0)\/m.natAbs%n.natAbs=0):
  m.fdiv n=sg (!(decide (m<0) == decide (n<0))) (m.natAbs/n.natAbs)/\m.fmod n=sg (decide (n<0)) (m.natAbs%n.natAbs):=by
 have e:=Nat.mod_add_div m.natAbs n.natAbs;have I:=Nat.mod_lt m.natAbs (show 0<n.natAbs by omega);generalize m.natAbs/n.natAbs=q at *;generalize m.natAbs%n.natAbs=r at *;have F:(r:Int)+(n.natAbs:Int)*(q:Int)=(m.natAbs:Int):=by rw[<-Int.natCast_mul,<-Int.natCast_add,e]
 unfold sg;rcases Int.lt_or_gt_of_ne M with h|h
 ·rw[Xbj (a:=n) (by omega)]at F;refine(Int.fdiv_fmod_unique' h).2 ?_;by_cases A:m<0
  ·rw[Xbj (a:=m) (by omega)]at F;simp only[h,A,decide_true,beq_self_eq_true,Xbr,Xar,if_false,if_true];have:n*(q:Int)= -(-n*q):=by grind
   exact⟨by rw[this];omega,by omega,by omega⟩
  ·rw[Xbk (a:=m) (by omega)]at F;have J:r=0:=by
    rcases h0 with h0|h0
    ·simp[h,A]at h0
    ·exact h0
   simp only[h,A,decide_true,decide_false,show(!(false == true))=true from rfl,if_true];have:n* -(q:Int)= -n*q:=by grind
   exact⟨by rw[this];omega,by omega,by omega⟩
 ·rw[Xbk (a:=n) (by omega)]at F;refine(Int.fdiv_fmod_unique h).2 ?_;have E:¬n<0:=by omega
  by_cases A:m<0
  ·rw[Xbj (a:=m) (by omega)]at F;have J:r=0:=by
    rcases h0 with h0|h0
    ·simp[E,A]at h0
    ·exact h0
   simp only[E,A,decide_true,decide_false,show(!(true == false))=true from rfl,if_true,Xar,if_false];have:n* -(q:Int)= -(n*q):=by grind
   exact⟨by rw[this];omega,by omega,by omega⟩
  ·rw[Xbk (a:=m) (by omega)]at F;simp only[E,A,decide_false,beq_self_eq_true,Xbr,Xar,if_false];exact⟨by omega,by omega,by omega⟩
def Wf{m n:Nat}(A:m<cU)(E:n<cU)(h:n≠0):La (dec m) (dec n)=(dec (m/n),dec (m%n),0):=by unfold La;rw[if_pos (wL A E),cF,cF,if_neg h]
def D6(a b:ByteArray)(ha:a.size<=1048576)(F:b.size<=1048576):PC prog 89 [str a,str b] (.tup [str (mC a b).1,str (mC a b).2.1,int (mC a b).2.2]):=by
 refine pcd func89 rfl rfl ?_;simp only[go_sem];refine aP (Ec a b ha F) ?_;simp only[go_sem];refine aA (fun h=>?_) (fun h=>?_)
 ·have h:nM a b≠0:=by simpa using h
  simp only[go_sem];rw[show mC a b=(emp,emp,nM a b)from if_neg h];exact .refl _
 have h:nM a b=0:=by simpa using h
 obtain⟨m,n,rfl,rfl,X,hn⟩:=Bc h;have e:mC (zed m) (zed n)=if n=0 then(emp,emp,10)else(zed (m.fdiv n),zed (m.fmod n),0):=by unfold mC;rw[if_pos h,dE,dE]
 rw[e,N2 h];simp only[go_sem];obtain⟨A,hA⟩:∃A,hJ (decide (m<0)) m.natAbs=A:=⟨_,rfl⟩;obtain⟨B,hB⟩:∃B,hJ (decide (n<0)) n.natAbs=B:=⟨_,rfl⟩;have U:A.length=2:=by rw[<-hA];rfl
 have Z:B.length=2:=by rw[<-hB];rfl
 refine yY (fun O H'=>∃i j,O 9=.op i 0 0/\O 10=.op j 0 0/\H' i=some (Bp A)/\H' j=some (Bp B)) ?_ fun K hK=>?_
 rotate_left
 ·refine xE [] (.q 0 (.q 1 (.q 2 (.q 3 (.q 4 (.q 5 (.a2 6 (.a1 7 (.a1 8 (.a1 9 .nil))) 7 (.a1 6 (.a1 8 (.a1 9 .nil)))))))))) (by simp) (by kernel_rfl) fun Hp Hr _ hq _ _=>?_
  simp only[go_sem,Xae,List.length_nil,hA,hB]
  repeat (refine⟨by first|decide|omega,?_⟩)
  refine iB ?_ ?_
  ·simp only[go_sem];refine aJ fun i hi=>?_
   simp only[go_sem];refine aJ fun j hj=>?_
   have R:=aB Hr i (some (zN));have T:=bC R hj;have J:=nA (r':=zN) R hj;have I:=aB (aI Hr i (some (zN))) j (some (zN));simp only[go_sem];refine aN (r:=zN) J (by simp[U]) ?_;simp only[go_sem];refine aN (r:=zN) (by rw[aD _ _ _ _ T.symm];exact I) (by simp[Z]) ?_;simp only[go_sem];refine dN fun _ Hm _ X=>hK _ _ ⟨i,j,by simp only[go_sem],by simp only[go_sem],?_,?_⟩
   ·rw[X i (by simp),aD _ _ _ _ T,aB];exact congrArg some (AG U)
   ·rw[X j (by simp),aB];exact congrArg some (AG Z)
  ·simp only[go_sem];refine aJ fun j hj=>?_
   simp only[go_sem];refine aJ fun i hi=>?_
   have R:=aB Hr j (some (zN));have T:=(bC R hi).symm;have I:=nA (r':=zN) R hi;have J:=aB (aI Hr j (some (zN))) i (some (zN));simp only[go_sem];refine aN (r:=zN) J (by simp[U]) ?_;simp only[go_sem];refine aN (r:=zN) (by rw[aD _ _ _ _ T.symm];exact I) (by simp[Z]) ?_;simp only[go_sem];refine dN fun _ Hm _ X=>hK _ _ ⟨i,j,by simp only[go_sem],by simp only[go_sem],?_,?_⟩
   ·rw[X i (by simp),aD _ _ _ _ T,aB];exact congrArg some (AG U)
   ·rw[X j (by simp),aB];exact congrArg some (AG Z)
 rintro ρ H ⟨i,j,M,E,J,I⟩;subst hA hB;simp only[go_sem,M,E,J,I,tS];refine aA (fun ab=>?_) (fun ab=>?_)
 ·have h0 : n = 0 := by have:=tI.1 (qI.1 ab);omega
  simp only[go_sem];rw[if_pos h0];exact .refl _
 have h0:n≠0:=fun e=>by subst e;exact oU.1 ab rfl
 have ah:n.natAbs≠0:=by omega
 rw[if_neg h0];simp only[go_sem,M,E,J,I];refine aP (aaK (dec m.natAbs) (dec n.natAbs) (dU X) (dU hn)) ?_;rw[Wf X hn ah];simp only[go_sem,M,E,J,I];refine aA (fun F=>by cases F) (fun _=>?_);simp only[go_sem,M,E,J,I,tS];have aj:=Nat.mod_add_div m.natAbs n.natAbs;have ai:=Nat.mod_lt m.natAbs (show 0<n.natAbs by omega);refine gT (fun O H'=>∃q r:Nat,O 9=.op i 0 0/\O 10=.op j 0 0/\H' i=some (Bp (hJ (decide (m<0)) m.natAbs))/\H' j=some (Bp (hJ (decide (n<0)) n.natAbs))/\O 11=str (dec q)/\O 12=str (dec r)/\q<cU/\r<cU/\sg (!(decide (m<0) == decide (n<0))) q=m.fdiv n/\sg (decide (n<0)) r=m.fmod n) ?_ fun K hK=>aA (fun F=>?_) (fun F=>?_)
 rotate_left
 ·have F : decide (m < 0) ≠ decide (n < 0) /\ m.natAbs % n.natAbs ≠ 0 := by simp only[Xap,Xbh,beq_eq_false_iff_ne,ne_eq,oU]at F;exact⟨F.1,fun e=>F.2 (by rw[e])⟩
  obtain⟨f1,f2⟩:=L4 h0 F.1 F.2;have aa:m.natAbs/n.natAbs+1<cU:=by
   have h2:2<=n.natAbs:=by omega
   have h3:2*(m.natAbs/n.natAbs)<=n.natAbs*(m.natAbs/n.natAbs):=Nat.mul_le_mul_right _ h2;omega
  have Y:m.natAbs/n.natAbs<cU:=by omega
  have ae:(1:Nat)<cU:=Nat.lt_of_le_of_lt (Nat.le_add_left 1 _) aa;have af:m.natAbs%n.natAbs<cU:=by omega
  generalize hQ:m.natAbs/n.natAbs=q at *;generalize hR:m.natAbs%n.natAbs=r at *;simp only[go_sem,M,E];rw[Dk];refine aP (VT (dec q) (dec 1) (dU Y) (dU ae)) ?_;rw[KT Y ae,A6 aa];simp only[go_sem,M,E,J,I];refine aA (fun F=>by cases F) (fun _=>?_);simp only[go_sem,M,E,J,I];refine aP (Vr (dec n.natAbs) (dec r) (dU hn) (dU af)) ?_;rw[JQ hn af (by omega),A6 (show n.natAbs-r<cU by omega)];simp only[go_sem,M,E,J,I];refine aA (fun F=>by cases F) (fun _=>?_);simp only[go_sem,M,E];refine hK _ _ ⟨q+1,n.natAbs-r,by simp only[go_sem,M],by simp only[go_sem,E],J,I,by simp only[go_sem],by simp only[go_sem],aa,by omega,?_,f2.symm⟩;rw[f1];unfold sg;rw[if_pos (by simpa using F.1)]
 ·have F : decide (m < 0) = decide (n < 0) \/ m.natAbs % n.natAbs = 0 := by
   by_cases h1:decide (m<0)=decide (n<0)
   ·exact .inl h1
   ·refine .inr ?_;have h2:(!(decide (m<0) == decide (n<0)))=true:=by simpa using h1
    rw[h2,Xbe,Bool.not_eq_false']at F;exact tI.1 (qI.1 F)
  obtain⟨f1,f2⟩:=Tl h0 F;have Y:m.natAbs/n.natAbs<cU:=Nat.lt_of_le_of_lt (Nat.div_le_self _ _) X;simp only[go_sem,M,E];exact hK _ _ ⟨_,_,by simp only[go_sem,M],by simp only[go_sem,E],J,I,by simp only[go_sem],by simp only[go_sem],Y,by omega,f1.symm,f2.symm⟩
 clear M E J I;rintro ρ H ⟨q,r,M,E,J,I,ac,ag,hq,hr,f1,f2⟩;simp only[go_sem];refine dD (by rfl) (by kernel_rfl) ?_;simp only[go_sem,M,E,ac,ag,J,I];refine⟨_,(OQ _ q (dU hq)).q rfl,?_⟩;simp only[go_sem,M,E,ac,ag,J,I];refine⟨_,(OQ _ r (dU hr)).q rfl,?_⟩;simp only[go_sem,f1,f2];exact .refl _
end Nu
namespace Nu
open Go.Proofs.Tryz
open Go.Nu
open Go.RowKit (Below)
def BA:∀l:List UInt8,Lib.indexByte l 47=if l.any (· == dG)=true then((l.takeWhile (· != dG)).length:Int)else -1
 | []=>rfl
 | c::l=>by
  have ih:=BA l;unfold Lib.indexByte;by_cases h:c=dG
  ·subst h;rfl
  ·have h1:(c == (47:UInt8))=false:=by simpa[dG]using h
   have A:(c == dG)=false:=by simpa using h
   have E:(c != dG)=true:=by simpa using h
   rw[h1,ih,List.any_cons,A,List.takeWhile_cons,E];simp only[Xar,if_false,Bool.false_or,if_true];split
   ·rw[if_neg (by simp)];simp
   ·rfl
def Dg{α:Type}(p:α->Bool):∀l:List α,l.take (l.takeWhile p).length=l.takeWhile p
 | []=>rfl
 | a::l=>by
  rw[List.takeWhile_cons];split
  ·rw[Xae,List.take_succ_cons,Dg p l]
  ·rfl
def Py{α:Type}(p:α->Bool):∀l:List α,l.drop ((l.takeWhile p).length+1)=(l.dropWhile p).drop 1
 | []=>rfl
 | a::l=>by
  rw[List.takeWhile_cons,List.dropWhile_cons];split
  ·rw[Xae,List.drop_succ_cons,Py p l]
  ·rfl
def abF{l:List UInt8}(h:l.any (· == dG)=true):(l.takeWhile (· != dG)).length<l.length:=by
 rcases Xay (l.takeWhile (· != dG)).length l.length with h1|h1
 ·exact h1
 ·exfalso;have E:=Dg (· != dG) l;rw[Xam h1]at E;obtain⟨c,F,A⟩:=Xan.1 h;rw[E]at F;have:=Bi F;simp at this A;exact this A
def Uo(s:ByteArray):Int:=if jQ s=true then(((bl s).takeWhile (· != dG)).length:Int)else -1
def WI(s:ByteArray):PC prog 196 [str s,str ⟨#[47]⟩] (int (Uo s)):=by
 refine PC.lib (a:=[.string s,.string ⟨#[47]⟩]) (v:=.int .i64 (Uo s)) (fun S w=>rfl) fun w _=>(Tryz.stringslite_Index_one s 47 w).mono fun e w' ⟨A,E⟩=>?_
 rw[E];exact⟨A.trans (by rw[show s.data.toList=bl s from rfl,BA];rfl),Below.refl _ _⟩
def Kj(s:ByteArray):PC prog 125 [str s,str ⟨#[47]⟩] (boo (jQ s)):=by
 refine PC.lib (a:=[.string s,.string ⟨#[47]⟩]) (v:=.bool (jQ s)) (fun S w=>rfl) fun w _=>(Tryz.strings_Contains_one s 47 w).mono fun e w' ⟨A,E⟩=>?_
 rw[E];refine⟨A.trans ?_,Below.refl _ _⟩;rw[show s.data.toList=bl s from rfl,BA];unfold jQ;cases(bl s).any (· == dG) <;> simp
def Ib(s:ByteArray):ByteArray:=⟨(((bl s).dropWhile (· != dG)).drop 1).toArray⟩
def UD(s:ByteArray)(h:s.size<=1048576):PC prog 174 [str s,str ⟨#[47]⟩] (.tup (if jQ s=true then[str (gU s),str (Ib s),boo true]else[str s,str emp,boo false])):=by
 refine pcd func174 rfl rfl ?_;simp only[go_sem];refine aP (WI s) ?_;simp only[go_sem];have O:=eV s;refine aA (fun A=>?_) (fun A=>?_)
 ·have E : jQ s = true := by
   have A:=of_decide_eq_true A;unfold Uo at A;split at A
   ·assumption
   ·omega
  have M:=abF E;rw[if_pos E,show Uo s=(((bl s).takeWhile (· != dG)).length:Int)from if_pos E];simp only[go_sem];refine dD (by rfl) (by kernel_rfl) ?_;simp only[go_sem];have J:s.extract 0 ((bl s).takeWhile (· != dG)).length=gU s:=kZ (by rw[gV,Xbg,Dg];exact(iW _).symm);have I:s.extract (((bl s).takeWhile (· != dG)).length+1) s.size=Ib s:=kZ (by rw[gV,<-O,Xad,Py];exact(iW _).symm);refine⟨⟨by omega,by omega⟩,?_⟩;have F:IntKind.i64.wrap ((((bl s).takeWhile (· != dG)).length:Int)+((#[47]:Array UInt8).size:Nat))=((((bl s).takeWhile (· != dG)).length+1:Nat):Int):=lG (by omega);simp only[F,Xaz,J,I];refine⟨⟨by omega,by omega⟩,?_⟩;exact .refl _
 ·have E : ¬ jQ s = true := fun E => by have A:=of_decide_eq_false A;unfold Uo at A;rw[if_pos E]at A;omega
  rw[if_neg E];simp only[go_sem];exact .refl _
def Wz{s:ByteArray}(h:jQ s=false):gU s=s:=by
 refine kZ ?_;unfold gU;rw[iW];refine tQ fun c A=>?_
 unfold jQ at h;rw[Xbb]at h;have:=h c A;simpa using this
def abX(s:ByteArray)(h:s.size<=1048576):PC prog 131 [str s,str ⟨#[47]⟩] (.tup (if jQ s=true then[str (gU s),str (Ib s),boo true]else[str s,str emp,boo false])):=by
 by_cases A:jQ s=true
 ·have:=UD s h;rw[if_pos A]at this |-;refine pcd func131 rfl rfl ?_;simp only[go_sem];refine aP this ?_;simp only[go_sem];exact .refl _
 ·have:=UD s h;rw[if_neg A]at this |-;refine pcd func131 rfl rfl ?_;simp only[go_sem];refine aP this ?_;simp only[go_sem];exact .refl _
def zX(s:ByteArray)(h:s.size<=1048576):PC prog 86 [str s] (.tup [str (gU s),str (gD s)]):=by
 have E:=abX s h;by_cases A:jQ s=true
 ·rw[if_pos A]at E;refine pcd func86 rfl rfl ?_;simp only[go_sem];refine aP E ?_;simp only[go_sem];refine aA (fun F=>by cases F) (fun _=>?_);simp only[go_sem];rw[show gD s=Ib s from if_pos A];exact .refl _
 ·rw[if_neg A]at E;refine pcd func86 rfl rfl ?_;simp only[go_sem];refine aP E ?_;simp only[go_sem];refine aA (fun _=>?_) (fun F=>by cases F);simp only[go_sem];rw[show gD s=dec 1 from if_neg A,Wz (by simpa using A),<-Dk];exact .refl _
def I8(s:ByteArray):PC prog 124 [str s] (int (dY s).size):=by refine pcd func124 rfl rfl ?_;simp only[go_sem];refine aP (vW s) ?_;simp only[go_sem];exact .refl _
def Bb(s:ByteArray):(gU s).size<=s.size:=by rw[<-eV,<-eV,show bl (gU s)=(bl s).takeWhile (· != dG)from iW _,<-Dg];simp;omega
def SA(s:ByteArray):(gD s).size<=max s.size 1:=by
 unfold gD;split
 ·rw[<-eV,<-eV,iW,List.length_drop];have:((bl s).dropWhile (· != dG)).length<=(bl s).length:=(List.dropWhile_suffix _).length_le;omega
 ·rw[<-Dk];exact Nat.le_max_right _ _
def N8:fC (dec 1)=true:=pL 1
def DD{s:ByteArray}(h:fC s=true):dY s=s:=by rw[<-jN h,Lv]
def QQ{s:ByteArray}(h:jQ s=false):gD s=dec 1:=if_neg (by rw[h];simp)
def Ma{s:ByteArray}(A:(!eT (gU s)||decide (((dY (gU s)).size:Int)>4096)||decide (((dY (gD s)).size:Int)>4096))=true):cP s=false:=by unfold cP;rw[Bool.eq_false_iff];simp only[ne_eq,Xap,decide_eq_true_eq];rintro⟨⟨⟨⟨h1,E⟩,I⟩,F⟩,_⟩;rw[h1,DD E]at A;simp only[Xbr,Bool.false_or,Bool.or_eq_true,decide_eq_true_eq]at A;omega
def Cf{s:ByteArray}(F:(!eT (gU s)||decide (((dY (gU s)).size:Int)>4096)||decide (((dY (gD s)).size:Int)>4096))=false)(I:fC (gD s)=true):
  (eT (gU s)&&fC (gD s)&&decide ((dY (gU s)).size<=4096)&&decide ((gD s).size<=4096))=true/\eT (gU s)=true/\(dY (gU s)).size<=4096/\(gD s).size<=4096:=by
 simp only[Xaj,Bool.not_eq_false',decide_eq_false_iff_not]at F;rw[DD I]at F;obtain⟨⟨h1,A⟩,E⟩:=F;have A:(dY (gU s)).size<=4096:=by omega
 have E:(gD s).size<=4096:=by omega
 refine⟨?_,h1,A,E⟩;rw[h1,I];simp[A,E]
def pS(s:ByteArray)(h:s.size<=1048576):PC prog 84 [str s] (boo (cP s)):=by
 have hn:=Bb s;have hd:=SA s;have h1:(1:Nat)<=1048576:=by omega
 have T:=Hu (gU s);have X:=Hu (gD s);refine pcd func84 rfl rfl ?_;simp only[go_sem];refine aP (zX s h) ?_;simp only[go_sem];refine aP (Ud (gU s) (by omega)) ?_;simp only[go_sem];refine⟨_,fun _=>(I8 (gU s)).q rfl,?_⟩;simp only[go_sem];refine⟨_,fun _=>(I8 (gD s)).q rfl,?_⟩;simp only[go_sem];refine aA (fun F=>?_) (fun F=>?_)
 ·simp only[go_sem];exact cB (Ma F).symm
 simp only[go_sem];refine aP (Kj s) ?_;simp only[go_sem];refine aA (fun I=>?_) (fun I=>?_)
 ·simp only[go_sem];refine cB ?_;have h0:jQ s=false:=by simpa using I
  have E:fC (gD s)=true:=by rw[QQ h0];exact N8
  unfold cP;rw[(Cf F E).1,h0];rfl
 have h0:jQ s=true:=by simpa using I
 simp only[go_sem];refine aP (AK (gD s) (by omega)) ?_;simp only[go_sem,tS,OZ];refine aA (fun A=>?_) (fun A=>?_)
 ·simp only[go_sem];refine cB ?_;unfold cP;rw[h0];simp only[Bool.or_eq_true,Xbh]at A;rcases A with((A|A)|A)|A <;> simp[A]
 simp only[Xaj,Bool.not_eq_false']at A;obtain⟨⟨⟨E,M⟩,h4⟩,h5⟩:=A;obtain⟨Y,O,f3,J⟩:=Cf F E;simp only[go_sem];refine aP (vW (gU s)) ?_;simp only[go_sem];refine aP (Vw (dY (gU s)) (gD s) (by omega) (by omega)) ?_;simp only[go_sem,OZ];refine cB ?_;have U:=A8 O;have v0:eP (gD s)≠0:=fun e=>oU.1 M (by rw[<-jN E,e])
 have Z:eP (gD s)<cU:=(zK E).1 J;have e:H9 (dY (gU s)) (gD s)=(dec (Nat.gcd (eP (dY (gU s))) (eP (gD s))),0):=by unfold H9;rw[if_pos (I1 U E f3 J),A6 (Nat.lt_of_le_of_lt (Nat.gcd_le_right _ (by omega)) Z)]
 have ev:(jG (gU s)).natAbs=eP (dY (gU s)):=by unfold jG;split <;> omega
 rw[e];unfold cP;rw[Y,h0,M,h4,h5,ev];simp only[beq_self_eq_true,Xbe,Xbr,Bool.not_false,Bool.false_or];rw[Xao,qI,tI,beq_iff_eq]
def yD(n:Int)(h0: -9223372036854775808<=n)(h1:n<=9223372036854775807):PC prog 65 [int n] (str (zed n)):=by refine pcd func65 rfl rfl ?_;simp only[go_sem];refine aP (abL n h0 h1) ?_;simp only[go_sem];exact .refl _
def PA(s:ByteArray)(h:s.size<=1048576):PC prog 61 [str s] (int (Cm s)):=by
 have J:=Bb s;refine pcd func61 rfl rfl ?_;simp only[go_sem];refine aP (pS s h) ?_;simp only[go_sem];refine aA (fun A=>?_) (fun A=>?_)
 ·simp only[go_sem];exact cI (by unfold Cm;rw[if_neg (by simpa using A)])
 ·have E:cP s=true:=by simpa using A
  simp only[go_sem];refine aP (zX s h) ?_;simp only[go_sem];refine aP (W6 (gU s) (by omega)) ?_;simp only[go_sem];refine cI ?_;obtain⟨x,rfl,I,F,_⟩:=gJ E;unfold Cm Jg;rw[if_pos E,F,if_pos (mQ _),dE,mO]
def I0(a b:ByteArray):List AV:=if(cP a&&cP b)=true then[str (gU a),str (gD a),str (gU b),str (gD b),int 0]else[str emp,str emp,str emp,str emp,int 3]
def Oj(a b:ByteArray)(E:a.size<=1048576)(F:b.size<=1048576):PC prog 91 [str a,str b] (.tup (I0 a b)):=by
 refine pcd func91 rfl rfl ?_;simp only[go_sem];refine aP (pS a E) ?_;simp only[go_sem];refine⟨_,fun _=>(pS b F).q rfl,?_⟩;simp only[go_sem];refine aA (fun A=>?_) (fun A=>?_)
 ·simp only[go_sem];rw[show I0 a b=[str emp,str emp,str emp,str emp,int 3]from if_neg (by rw[Bool.not_eq_true,<-Xbh,Bool.not_and];exact A)];exact .refl _
 ·simp only[go_sem];refine aP (zX a E) ?_;simp only[go_sem];refine aP (zX b F) ?_;simp only[go_sem];rw[show I0 a b=_ from if_pos (by rw[<-Bool.not_eq_false',Bool.not_and];exact A)];exact .refl _
def T0(n:Int)(d:Nat)(J:d≠0)(M:n.natAbs<cU)(A:d<cU):PC prog 172 [str (zed n),str (dec d)] (.tup [str (pV (mkRat n d)),int 0]):=by
 have I:=Se (n:=n) J A;have U:=XK (n:=n) J;have O:∀{m:Int},m.natAbs<cU->(zed m).size<=1048576:=fun {m} hm=>by
  have:=(sL m).2 hm;unfold dY at this;split at this
  ·rw[<-eV,iW,List.length_drop]at this;rw[<-eV];omega
  ·omega
 have F:=Ds J M A;have T:mC (zed n) (dec (Nat.gcd n.natAbs d))=(zed (mkRat n d).num,zed (n.fmod (Nat.gcd n.natAbs d:Nat)),0):=by unfold mC;rw[<-fF,if_pos (vR M (by rw[Xbl];exact I)),dE,dE,if_neg (by omega),XH J]
 have X:mC (dec d) (dec (Nat.gcd n.natAbs d))=(dec (mkRat n d).den,zed ((d:Int).fmod (Nat.gcd n.natAbs d:Nat)),0):=by unfold mC;rw[<-fF,<-fF,if_pos (vR (by rw[Xbl];exact A) (by rw[Xbl];exact I)),dE,dE,if_neg (by omega),XE J,fF]
 refine pcd func172 rfl rfl ?_;simp only[go_sem];refine aP (vW (zed n)) ?_;rw[lO];simp only[go_sem];refine aP (Vw (dec n.natAbs) (dec d) (dU M) (dU A)) ?_;rw[show H9 (dec n.natAbs) (dec d)=(dec (Nat.gcd n.natAbs d),0)by unfold H9;rw[if_pos (wL M A),cF,cF,A6 I]];simp only[go_sem];refine aA (fun E=>by cases E) (fun _=>?_);simp only[go_sem];refine aP (D6 (zed n) (dec (Nat.gcd n.natAbs d)) (O M) (dU I)) ?_;rw[T];simp only[go_sem];refine aA (fun E=>by cases E) (fun _=>?_);simp only[go_sem];refine aP (D6 (dec d) (dec (Nat.gcd n.natAbs d)) (dU A) (dU I)) ?_;rw[X];simp only[go_sem];refine aA (fun E=>by cases E) (fun _=>?_);simp only[go_sem,OZ];generalize mkRat n d=x at *;refine aA (fun E=>?_) (fun E=>?_)
 ·have h1:x.den=1:=tI.1 (qI.1 E);simp only[go_sem];rw[show pV x=zed x.num from if_pos h1];exact .refl _
 ·have h1:x.den≠1:=fun e=>oU.1 E (by rw[e])
  simp only[go_sem];have Y:=O F.1;have z2:=dU F.2;have Z:(zed x.num++slB).size=(zed x.num).size+1:=by rw[ByteArray.size_append];rfl
  refine⟨by show((zed x.num).size+(1:Nat):Int)<=9223372036854775807;omega,?_⟩;refine⟨by show(((zed x.num).size+1+(dec x.den).size:Nat):Int)<=9223372036854775807;omega,?_⟩;rw[show pV x=zed x.num++slB++dec x.den from if_neg h1];exact .refl _
end Nu
namespace Nu
open Go.Proofs.Tryz
open Go.Nu
abbrev Pr:=ByteArray×ByteArray
def xR(p:Pr):List AV:=[str p.1,str p.2]
def Gp(p:Pr):(xR p).length=2:=(rfl)
def WM(p:Pr):(xR p).getD 0 .any=str p.1:=(rfl)
def XA(p:Pr):(xR p).getD 1 .any=str p.2:=(rfl)
def QJ(p:Pr):(xR p).take 2=xR p:=(rfl)
attribute [go_sem] Gp WM XA QJ
def prA(p:Pr):List AV:=[str (wN p.1 p.2).1]
def prE:List Pr->Int
 | []=>0
 | p::l=>if(wN p.1 p.2).2≠0 then(wN p.1 p.2).2 else prE l
def Jn:∀{l:List Pr},(∀p∈l,(wN p.1 p.2).2=0)->prE l=0
 | [],_=>rfl
 | p::l,h=>by unfold prE;rw[if_neg (by simp[h p (by simp)])];exact Jn fun q A=>h q (by simp[A])
def V5:∀{l:List Pr} {k:Nat} {p:Pr},l[k]?=some p->(∀q∈l.take k,(wN q.1 q.2).2=0)->(wN p.1 p.2).2≠0->prE l=(wN p.1 p.2).2
 | [],k,p,h,_,_=>by simp at h
 | a::l,0,p,h,_,h2=>by simp at h;subst h;unfold prE;rw[if_pos h2]
 | a::l,k+1,p,h,h1,h2=>by unfold prE;rw[if_neg (by simp[h1 a (by simp)])];exact V5 (k:=k) (by simpa using h) (fun q A=>h1 q (by simp[A])) h2
def YH(l:List (List AV)):Row:=⟨9,1,l⟩
def EK(l:List Pr)(hl:l.length<=1048576)(hs:∀p∈l,p.1.size<=1048576/\p.2.size<=1048576):PC prog 171 [.sl (l.map xR)] (.tup [.sl (if prE l=0 then l.map prA else[]),int (prE l)]):=by
 refine pcb (fun t=>t == 6||t == 11) func171 rfl rfl ?_;simp only[go_sem];refine⟨⟨⟨by omega,by omega⟩,by omega⟩,?_⟩;refine aJ fun j hj=>?_
 simp only[go_sem];refine⟨fun ρ H=>∃(k j:Nat),k<=l.length/\ρ 12=.sl (l.map xR)/\ρ 13=int l.length/\ρ 4=.os j/\ρ 14=int k/\H j=some (YH ((l.take k).map prA))/\∀p∈l.take k,(wN p.1 p.2).2=0,fun ρ _=>l.length-aU (ρ 14),
  ⟨0,j,Xab _,by simp only[go_sem],by simp only[go_sem,Xaa],by simp only[go_sem],by simp only[go_sem];rfl,aB _ _ _,by simp⟩,?_⟩
 clear hj j;rintro ρ H ⟨k,j,hk,F,A,O,E,X,hz⟩;simp only[go_sem,F,A,O,E];refine aA (fun I=>?_) (fun T=>?_)
 ·have I:=ltB I;obtain⟨p,J⟩:=aO I;have b1:=inB I;have Z:=hs p (Xac J);simp only[go_sem,F,A,O,E,aC J,b1];refine aJ fun i hi=>?_
  have Y:j≠i:=bC X hi;simp only[go_sem,F,A,O,E];refine aN (aB _ _ _) (by simp[Gp]) ?_;generalize hG:aI (aI _ i _) i _=HG;have Ri:HG i=some (⟨268,2,[xR p]⟩:Row):=by rw[<-hG,aB];rfl
  have aa:HG j=some (YH ((l.take k).map prA)):=by rw[<-hG,aD _ _ _ _ Y,aD _ _ _ _ Y];exact X
  clear hG hi X;simp only[go_sem,F,A,O,E,Ri]
  repeat (refine⟨by first|decide|omega,?_⟩)
  refine aP (aaH p.1 p.2 Z.1 Z.2) ?_;simp only[go_sem,F,A,O,E];refine aA (fun M=>?_) (fun M=>?_)
  ·have M:(wN p.1 p.2).2≠0:=by simpa using M
   simp only[go_sem];have e:prE l=(wN p.1 p.2).2:=V5 J hz M;rw[e,if_neg M];exact .refl _
  ·have M:(wN p.1 p.2).2=0:=by simpa using M
   simp only[go_sem,F,A,O,E];refine bT aa ⟨rfl,rfl⟩ ⟨rfl,trivial⟩ (by simp only[YH,Xaa,Xah,Xae,List.length_nil];omega) (fun j' ab=>?_);simp only[go_sem,F,A,O,E,aT k];refine⟨⟨k+1,j',I,rfl,rfl,?_,?_⟩,by simp only[aF];omega⟩
   ·rw[aB];simp only[YH,aZ J,Xak,Xat,List.map_nil];rfl
   ·intro q U;rw[aZ J]at U;rcases Xas.1 U with U|U
    ·exact hz q U
    ·rw[Xax.1 U];exact M
 ·have T:=geB hk T;subst T;rw[Xad]at X hz;simp only[go_sem,O,X];have e:prE l=0:=Jn hz;rw[if_pos e,e];exact .tup _ _ (.cons _ _ _ _ (.row _ _ _ X (ConvE.refl _)) (ConvL.refl _))
def EN{m n:Int}(A:m.natAbs<cU)(E:n.natAbs<cU):wN (zed m) (zed n)=szZ (m*n):=by unfold wN;rw[if_pos (vR A E),dE,dE]
def TY{m n:Int}(A:m.natAbs<cU)(E:n.natAbs<cU):EX (zed m) (zed n)=szZ (m+n):=by unfold EX;rw[if_pos (vR A E),dE,dE]
def Iw{n:Int}(h:nD n=false):szZ n=(zed n,0):=if_pos (kP.1 h)
def Df{n:Int}(h:nD n=true):szZ n=(emp,4):=if_neg (fun A=>by rw[kP.2 A]at h;cases h)
def fT{m:Int}(A:m.natAbs<cU):(zed m).size<=1048576:=by
 have:=(sL m).2 A;unfold dY at this;split at this
 ·rw[<-eV,iW,List.length_drop]at this;rw[<-eV];omega
 ·omega
def B8{a b c d:Int}(I:a.natAbs<cU)(J:b.natAbs<cU)(E:c.natAbs<cU)(F:d.natAbs<cU):
  PC prog 171 [.sl [[str (zed a),str (zed b)],[str (zed c),str (zed d)]]] (if(nD (a*b)||nD (c*d))=true then .tup [.sl [],int 4]else .tup [.sl [[str (zed (a*b))],[str (zed (c*d))]],int 0]):=by
 have:=EK [(zed a,zed b),(zed c,zed d)] (by simp) (by simp[fT,I,J,E,F]);simp only[prE,EN I J,EN E F,Xat,List.map_nil,prA,xR]at this;cases h1:nD (a*b)with
 | true=>rw[Df h1]at this;simpa using this
 | false=>
  rw[Iw h1]at this;cases A:nD (c*d)with
  | true=>rw[Df A]at this;simpa using this
  | false=>rw[Iw A]at this;simpa using this
def LB{a b:Int}(A:a.natAbs<cU)(E:b.natAbs<cU):
  PC prog 171 [.sl [[str (zed a),str (zed b)]]] (if nD (a*b)=true then .tup [.sl [],int 4]else .tup [.sl [[str (zed (a*b))]],int 0]):=by
 have:=EK [(zed a,zed b)] (by simp) (by simp[fT,A,E]);simp only[prE,EN A E,Xat,List.map_nil,prA,xR]at this;cases h1:nD (a*b)with
 | true=>rw[Df h1]at this;simpa using this
 | false=>rw[Iw h1]at this;simpa using this
def fv(g:FuncId):AV:=.v (.func (.func g) #[] #[])
def V2(op:Int->Int->Int)(x y:Rat):ByteArray×Int:=
 if(nD (x.num*y.den)||nD (y.num*x.den)||nD (op (x.num*y.den) (y.num*x.den))||nD (x.den*y.den))=true then(emp,4)else(pV (mkRat (op (x.num*y.den) (y.num*x.den)) (x.den*y.den)),0)
def FT(op:Int->Int->Int)(a b:ByteArray):ByteArray×Int:=if(cP a&&cP b)=true then V2 op (BR a) (BR b)else(emp,3)
def QZ(g:FuncId)(op:Int->Int->Int)(aa:aH prog g=true)(hg:∀m n:Int,m.natAbs<cU->n.natAbs<cU->PC prog g [str (zed m),str (zed n)] (.tup [str (szZ (op m n)).1,int (szZ (op m n)).2]))
  (a b:ByteArray) (ha:a.size<=1048576) (E:b.size<=1048576):PC prog 173 [str a,str b,fv g] (.tup [str (FT op a b).1,int (FT op a b).2]):=by
 have A:=Oj a b ha E;by_cases M:(cP a&&cP b)=true;rotate_left
 ·rw[show I0 a b=_ from if_neg M]at A;rw[show FT op a b=(emp,3)from if_neg M];unfold fv;refine pcd func173 rfl rfl ?_;simp only[go_sem];refine aP A ?_;simp only[go_sem];refine aA (fun _=>?_) (fun E=>by cases E);simp only[go_sem];exact .refl _
 rw[show I0 a b=_ from if_pos M]at A;rw[show FT op a b=_ from if_pos M];simp only[Xap]at M;obtain⟨x,rfl,Z,e1,e2⟩:=gJ M.1;obtain⟨y,rfl,hy,e3,e4⟩:=gJ M.2;rw[e1,e2,e3,e4]at A;rw[mO,mO];have Y:((x.den:Int)).natAbs<cU:=by rw[Xbl];exact Z.2
 have yd:((y.den:Int)).natAbs<cU:=by rw[Xbl];exact hy.2
 have T:=B8 Z.1 yd hy.1 Y;have U:=LB Y yd;rw[fF,fF]at T U;unfold fv;refine pcd func173 rfl rfl ?_;simp only[go_sem];refine aP A ?_;simp only[go_sem];refine aA (fun E=>by cases E) (fun _=>?_);simp only[go_sem];unfold V2;cases I:(nD (x.num*y.den)||nD (y.num*x.den))with
 | true=>rw[I,if_pos rfl]at T;refine aP T ?_;simp only[go_sem];refine aA (fun _=>?_) (fun E=>by cases E);exact .refl _
 | false=>
  rw[I]at T;simp only[Xar,if_false]at T;refine aP T ?_;simp only[go_sem];refine aA (fun E=>by cases E) (fun _=>?_);simp only[go_sem];have F:=I;simp only[Xaj]at F;have X:=hg _ _ (kP.1 F.1) (kP.1 F.2);refine dD (by rfl) (by kernel_rfl) ?_;simp only[go_sem,Xae,List.length_nil]
  repeat (refine⟨by first|decide|omega,?_⟩)
  refine⟨_,X.q rfl,?_⟩;simp only[go_sem];generalize hN:op (x.num*y.den) (y.num*x.den)=N;cases O:nD N with
  | true=>rw[Df O];refine aA (fun _=>?_) (fun E=>by cases E);simp only[go_sem,I,Bool.false_or,Bool.true_or,if_true];exact .refl _
  | false=>
   rw[Iw O];refine aA (fun E=>by cases E) (fun _=>?_);simp only[go_sem];cases J:nD ((x.den:Int)*y.den)with
   | true=>rw[J,if_pos rfl]at U;refine aP U ?_;simp only[go_sem];refine aA (fun _=>?_) (fun E=>by cases E);simp only[go_sem,Bool.or_true,if_true];exact .refl _
   | false=>
    rw[J]at U;simp only[Xar,if_false]at U;refine aP U ?_;simp only[go_sem];refine aA (fun E=>by cases E) (fun _=>?_);simp only[go_sem,Xae,List.length_nil]
    repeat (refine⟨by first|decide|omega,?_⟩)
    have hD:x.den*y.den<cU:=by rw[<-Db];exact kP.1 J
    have:=T0 N (x.den*y.den) (Il x y) (kP.1 O) hD;rw[<-fF,Int.natCast_mul]at this;refine aP this ?_;simp only[go_sem];exact .refl _
def QW(a b:ByteArray):FT (·+·) a b=BO a b:=by unfold FT BO V2 tM;simp only[TO]
def wD(a b:ByteArray)(F:a.size<=1048576)(I:b.size<=1048576):PC prog 130 [str a,str b] (.tup [str (BO a b).1,int (BO a b).2]):=by have:=QZ 90 (·+·) (by kernel_rfl) (fun m n A E=>by rw[<-TY A E];exact Wl _ _ (fT A) (fT E)) a b F I;rw[QW]at this;unfold fv at this;refine pcd func130 rfl rfl ?_;simp only[go_sem];refine aP this ?_;simp only[go_sem];exact .refl _
def Zz(a b:ByteArray)(ha:a.size<=1048576)(F:b.size<=1048576):PC prog 129 [str a,str b] (.tup [str (yW a b).1,int (yW a b).2]):=by
 have A:=Oj a b ha F;by_cases I:(cP a&&cP b)=true;rotate_left
 ·rw[show I0 a b=_ from if_neg I]at A;rw[show yW a b=(emp,3)from if_neg I];refine pcd func129 rfl rfl ?_;simp only[go_sem];refine aP A ?_;simp only[go_sem];refine aA (fun _=>?_) (fun F=>by cases F);simp only[go_sem];exact .refl _
 rw[show I0 a b=_ from if_pos I]at A;rw[show yW a b=_ from if_pos I];simp only[Xap]at I;obtain⟨x,rfl,M,e1,U⟩:=gJ I.1;obtain⟨y,rfl,O,Z,X⟩:=gJ I.2;rw[e1,U,Z,X]at A;rw[mO,mO];have T:((x.den:Int)).natAbs<cU:=by rw[Xbl];exact M.2
 have Y:((y.den:Int)).natAbs<cU:=by rw[Xbl];exact O.2
 have J:=B8 M.1 O.1 T Y;rw[fF,fF]at J;refine pcd func129 rfl rfl ?_;simp only[go_sem];refine aP A ?_;simp only[go_sem];refine aA (fun F=>by cases F) (fun _=>?_);simp only[go_sem];unfold KK;cases E:(nD (x.num*y.num)||nD ((x.den:Int)*y.den))with
 | true=>rw[E,if_pos rfl]at J;refine aP J ?_;simp only[go_sem];refine aA (fun _=>?_) (fun F=>by cases F);exact .refl _
 | false=>
  rw[E]at J;simp only[Xar,if_false]at J;refine aP J ?_;simp only[go_sem];refine aA (fun F=>by cases F) (fun _=>?_);simp only[go_sem];simp only[Xaj]at E;have hD:x.den*y.den<cU:=by rw[<-Db];exact kP.1 E.2
  have:=T0 (x.num*y.num) (x.den*y.den) (Il x y) (kP.1 E.1) hD;rw[<-fF,Int.natCast_mul]at this;refine dD (by rfl) (by kernel_rfl) ?_;simp only[go_sem,Xae,List.length_nil]
  repeat (refine⟨by first|decide|omega,?_⟩)
  refine⟨_,this.q rfl,?_⟩;simp only[go_sem];rw[<-T9];exact .refl _
def J1{p q:Int}(F:0<q):(p.fdiv q).natAbs<=p.natAbs:=by
 obtain⟨e,h0,h1⟩:=pN (p:=p) F;generalize p.fdiv q=d at *;generalize p.fmod q=m at *;rcases Int.lt_or_le d 0 with E|E
 ·have A:(d+1)*q<=(d+1)*1:=Int.mul_le_mul_of_nonpos_left (by omega) (by omega);rw[Int.add_mul]at A;omega
 ·have A:d*1<=d*q:=Int.mul_le_mul_of_nonneg_left (by omega) E;omega
def Ew{p q:Int}(A:p.natAbs<cU)(E:q.natAbs<cU)(h:0<q):mC (zed p) (zed q)=(zed (p.fdiv q),zed (p.fmod q),0):=by unfold mC;rw[if_pos (vR A E),dE,dE,if_neg (by omega)]
def VL(i j:Int):Uy (zed i) (zed j)=iC i j:=by unfold Uy;rw[if_pos ⟨mQ _,mQ _⟩,dE,dE]
def Od(i j:Int):iC i j= -1\/iC i j=0\/iC i j=1:=by
 unfold iC;split
 ·exact .inl rfl
 ·split
  ·exact .inr (.inr rfl)
  ·exact .inr (.inl rfl)
def abO:AV->Nat
 | .v (.string s)=>(jG s).natAbs
 | _=>0
def Kn(n:Int):abO (str (zed n))=n.natAbs:=by show(jG (zed n)).natAbs=_;rw[dE]
def Ek(n:Int):(bl (zed n) == [48])=decide (n=0):=by rw[tS,<-show zed ((0:Nat):Int)=dec 0 from fF 0,Xao,qI,T6,decide_eq_true_iff];exact Iff.rfl
def aaZ{a b:Int}(A:a=1\/a= -1)(E:b= -1\/b=0\/b=1):IntKind.i64.wrap (a*b)=a*b:=by rcases A with rfl|rfl <;> rcases E with rfl|rfl|rfl <;> rfl
def Zg{a:Int}(A:a=1\/a= -1):IntKind.i64.wrap (0-a)= -a:=by rcases A with rfl|rfl <;> rfl
def pH(a b:ByteArray)(ha:a.size<=1048576)(hb:b.size<=1048576):PC prog 64 [str a,str b] (int (Kl a b)):=by
 have E:=Oj a b ha hb;by_cases X:(cP a&&cP b)=true;rotate_left
 ·rw[show I0 a b=_ from if_neg X]at E;rw[show Kl a b=0 from if_neg X];refine pcd func64 rfl rfl ?_;simp only[go_sem];refine aP E ?_;simp only[go_sem];refine aA (fun _=>?_) (fun hb=>by cases hb);simp only[go_sem];exact .refl _
 rw[show I0 a b=_ from if_pos X]at E;rw[show Kl a b=_ from if_pos X];simp only[Xap]at X;obtain⟨x,rfl,hx,e1,e2⟩:=gJ X.1;obtain⟨y,rfl,hy,e3,e4⟩:=gJ X.2;rw[e1,e2,e3,e4]at E;rw[mO,mO];have xd:((x.den:Int)).natAbs<cU:=by rw[Xbl];exact hx.2
 have yd:((y.den:Int)).natAbs<cU:=by rw[Xbl];exact hy.2
 have x0:=x.den_nz;have y0:=y.den_nz;rw[<-fF,<-fF]at E;refine pcd func64 rfl rfl ?_;simp only[go_sem];refine aP E ?_;simp only[go_sem];refine aA (fun hb=>by cases hb) (fun _=>?_);simp only[go_sem];refine⟨fun ρ _=>∃(p q r s g:Int),ρ 5=str (zed p)/\ρ 6=str (zed q)/\ρ 7=str (zed r)/\ρ 8=str (zed s)/\ρ 10=int g/\(g=1\/g= -1)/\0<q/\0<s/\p.natAbs<cU/\q.natAbs<cU/\r.natAbs<cU/\s.natAbs<cU/\Yq x y=g*HT p q r s,fun ρ _=>abO (ρ 6),
  ⟨x.num,x.den,y.num,y.den,1,by simp only[go_sem],by simp only[go_sem],by simp only[go_sem],by simp only[go_sem],by simp only[go_sem],.inl rfl,by omega,by omega,hx.1,xd,hy.1,yd,by rw[Int.one_mul,aaA]⟩,?_⟩
 rintro ρ H ⟨p,q,r,s,g,O,T,U,M,A,hg,hq,hs,bp,bq,br,bs,F⟩;simp only[go_sem,O,T,U,M,A];refine aP (D6 (zed p) (zed q) (fT bp) (fT bq)) ?_;rw[Ew bp bq hq];simp only[go_sem,O,T,U,M,A];refine aP (D6 (zed r) (zed s) (fT br) (fT bs)) ?_;rw[Ew br bs hs];simp only[go_sem,O,T,U,M,A];have d1:=J1 (p:=p) hq;have d2:=J1 (p:=r) hs;refine aP (Nn (zed (p.fdiv q)) (zed (r.fdiv s)) (fT (by omega)) (fT (by omega))) ?_;rw[VL];simp only[go_sem,O,T,U,M,A];obtain⟨_,m0,m1⟩:=pN (p:=p) hq;obtain⟨_,n0,n1⟩:=pN (p:=r) hs;have c3:=Od (p.fdiv q) (r.fdiv s);refine aA (fun Z=>?_) (fun Z=>?_)
 ·have Z:iC (p.fdiv q) (r.fdiv s)≠0:=by simpa using Z
  simp only[go_sem,A,aaZ hg c3];refine cI ?_;rw[F,Om hq hs (fun e=>Z (qB e))]
 have Z:p.fdiv q=r.fdiv s:=G9.1 (by simpa using Z);have hX:=RV hq hs Z;generalize p.fmod q=m at *;generalize r.fmod s=n at *;simp only[go_sem,O,T,U,M,A,Ek];refine aA (fun Y=>?_) (fun Y=>?_)
 ·have Y:m=0/\n=0:=by simpa using Y
  simp only[go_sem];refine cI ?_;rw[F,hX,Y.1,Y.2,Int.zero_mul,Int.zero_mul,qB rfl,Int.mul_zero]
 simp only[go_sem,O,T,U,M,A,Ek];refine aA (fun J=>?_) (fun J=>?_)
 ·have J:m=0:=of_decide_eq_true J;have I:0<n:=by
   rcases Int.lt_or_le 0 n with h|h
   ·exact h
   ·exfalso;have:n=0:=by omega
    rw[J,this]at Y;cases Y
  simp only[go_sem,A,Zg hg];refine cI ?_;rw[F,hX,J,Int.zero_mul,iK (Int.mul_pos I hq)];omega
 have J:0<m:=by have:=of_decide_eq_false J;omega
 simp only[go_sem,O,T,U,M,A,Ek];refine aA (fun I=>?_) (fun I=>?_)
 ·have I:n=0:=of_decide_eq_true I;simp only[go_sem,A];refine cI ?_;rw[F,hX,I,Int.zero_mul,iP (Int.mul_pos J hs)];omega
 have I:0<n:=by have:=of_decide_eq_false I;omega
 simp only[go_sem,O,T,U,M,A,Zg hg];refine⟨⟨q,m,s,n,-g,rfl,rfl,rfl,rfl,rfl,by omega,J,I,bq,by omega,bs,by omega,?_⟩,?_⟩
 ·rw[F,hX,QS];rw[Int.mul_neg,Int.neg_mul]
 ·rw[Kn,Kn];omega
end Nu
end Go.Proofs.YtkjdacijpeiphaaGreatDoor
section
namespace Go.Sb
def pop:Nat->Nat->Nat
 | 0,_=>0
 | w+1,s=>s%2+pop w (s/2)
end Go.Sb
end
section
namespace Go.Proofs.YtkjdacijpeiphaaGreatDoor.Nu
open Go.Aw Go.Aw.D Go.Proofs Ty Go.Nu
def He{P:Program}{G:_}{t:TypeId}{a b:ByteArray}{k:AV->Prop}:fO P G .lss t (.v (.string a)) (.v (.string b)) k=k (.v (.bool (Op.bytesLess a.toList b.toList))):=(rfl)
attribute [go_sem ↓] He
attribute [go_sem] He
end Go.Proofs.YtkjdacijpeiphaaGreatDoor.Nu
end
section
namespace Go.Nu
open Go Go.Lib
def fT{m:Int}(A:m.natAbs<cU):(zed m).size<=4097:=by
 have:=(sL m).2 A;unfold dY at this;split at this
 ·rw[<-eV,iW,List.length_drop]at this;rw[<-eV];omega
 ·omega
def Td{x:Rat}(h:Bj x):(pV x).size<=8194:=by
 have h1:=fT h.1;have A:=(gH x.den).2 h.2;unfold pV;split
 ·omega
 ·rw[ByteArray.size_append,ByteArray.size_append];have:slB.size=1:=rfl;omega
def wI{s:ByteArray}(h:cP s=true):s.size<=8194:=by obtain⟨x,rfl,A,_⟩:=gJ h;exact Td A
def EE{a b:ByteArray}(h:(BO a b).2=0):cP (BO a b).1=true:=by
 unfold BO at h |-;split at h
 ·rename_i A;rw[if_pos A];obtain⟨e,E⟩:=Nm h;rw[e];exact vK E
 ·cases h
def Ov{a b:ByteArray}(h:(yW a b).2=0):cP (yW a b).1=true:=by
 unfold yW at h |-;split at h
 ·rename_i A;rw[if_pos A];obtain⟨e,E⟩:=Kv h;rw[e];exact vK E
 ·cases h
def nK:List (Int×ByteArray)->ByteArray->ByteArray×Int
 | [],t=>(t,0)
 | p :: l, t => if (yW (zed p.1) p.2).2 ≠ 0 then (emp, (yW (zed p.1) p.2).2) else
     if(BO t (yW (zed p.1) p.2).1).2≠0 then(emp,(BO t (yW (zed p.1) p.2).1).2)else nK l (BO t (yW (zed p.1) p.2).1).1
def fX(ns:List Int)(xs:List ByteArray):ByteArray×Int:=
 if ns.length≠xs.length then(emp,2)else if xs.any (fun x=> !cP x)=true then(emp,3)else nK (ns.zip xs) (dec 0)
def OP:cP (dec 0)=true:=by have:dec 0=pV 0:=(fF 0).symm.trans (if_pos (show(0:Rat).den=1 from rfl)).symm;rw[this];exact vK ⟨XD,MS (k:=1) (by decide) (by decide)⟩
end Go.Nu
end
section
namespace Go.Proofs.YtkjdacijpeiphaaGreatDoor.Nu
open Go.Aw Go.Aw.D Go.Proofs Ty Go.Nu
end Go.Proofs.YtkjdacijpeiphaaGreatDoor.Nu
end
