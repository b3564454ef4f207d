import Derived.WalkKit
import Derived.BigCall
import Derived.Deep.LoopGhost
import Derived.Deep.DeepFit
import Derived.Lib.SmallJoins
import Derived.Test.YtohmomanmikphaaGreatDoorPl07
set_option linter.unusedSimpArgs false
set_option linter.unusedVariables false
set_option maxRecDepth 100000
section
namespace Go.Proofs.YtohmomanmikphaaGreatDoor.Nu
open Go.Proofs.Tryz(prog)
open Go.Aw Go.Aw.D Go.Proofs Ty Go.Nu Go.RowKit Go.Sort
theorem tJ{T e:TypeId}{B b:Nat}{bs:List Value}{w w':World}(h:Lib.IsBuilder T e B b bs w)(J:Below w.heap.size w w'):Lib.IsBuilder T e B b bs w':=by
 have u:∀p,Lib.BuilderAt T e B b p bs w->Lib.BuilderAt T e B b p bs w':=by
   rintro p ⟨h1,v,E,I,O⟩;refine⟨h1,v,?_,⟨I.1,?_⟩,O⟩
   . rw[J.block b (Array.getElem?_eq_some_iff.1 E).1];exact E
   . rcases I.2 with M|⟨g,cap,cur,e1,e2,F,Z⟩
     . exact .inl M
     . exact .inr ⟨g,cap,cur,e1,e2,by rw[J.block g (Array.getElem?_eq_some_iff.1 F).1];exact F,Z⟩
 exact h.imp (u _) (u _)
theorem mR{w:World}(k:Nat)(os:Array Obj):Below w.heap.size w (grow (w.drewN k) os):=by
 refine⟨rfl,rfl,rfl,?_,fun i u=>?_⟩
 . simp[grow]
 . simp only[grow,World.heap_drewN]
   rw[Array.getElem?_append_left u]
theorem KE{T e:TypeId}{B b:Nat}{l:List UInt8}{s:ByteArray}{w:World}(h:Lib.BuilderAt T e B b (.pointer (some ⟨b,0,none⟩)) (Lib.byteCells l++Lib.strCells s) w):Lib.IsBuilder T e B b (Lib.byteCells (l++bl s)) w:=by
 rw[Lib.strCells_eq,<-Lib.byteCells_append]at h;exact .inr h
theorem tD(B b:Nat)(l:List UInt8)(s:ByteArray)(w:World)(h:Lib.IsBuilder 280 5 B b (Lib.byteCells l) w)(u:l.length+s.size<=140737488355328)(E:B<=w.heap.size):
   Calls prog 262 #[.pointer (some ⟨b,0,none⟩),.string s] w fun e w'=>e=.returned (.tuple #[.int .i64 s.size,.nilIface])/\Lib.IsBuilder 280 5 B b (Lib.byteCells (l++bl s)) w'/\Below B w w':=
 (Any.Builder_WriteString (P:=prog) (ρ:=Tryz.lays105_ren) { Tryz.lays105 with } Tryz.Builder_Extra_105 B b (Lib.byteCells l) s w h (by rw[Lib.byteCells_length];exact u) E).mono fun e w' ⟨I,F,J⟩=>⟨I,KE F,J⟩
theorem aeF{l:List Nat}(h:Lim bas l)(K:Nat)(u:l.length<=K)(h1:1<=K):(Lib.decDigits (ofL bas l)).length<=9*K:=by
 refine(jE (by omega)).2 (Xbw (iR (by decide) h) ?_);rw[show bas=10^9 from rfl,<-Nat.pow_mul];exact Xat (by omega) (by omega)
def GU(n k:Nat):List UInt8:=Lib.decDigits (ofL bas ((aO bas n).drop k))
theorem UE{n k x:Nat}(E:k+1<(aO bas n).length)(u:(aO bas n)[k]?=some x):GU n k=GU n (k+1)++asM x:=by
 have h1:=bZ (b:=bas) (by decide) n x (Xae u);unfold GU;rw[yP bas u];exact V3 h1 (Xy (by decide) E)
set_option maxHeartbeats 1600000 in
theorem NG (n:Nat) (w:World) (b o c:Nat) (ac:(aO bas n).length<=1048576) (af:0<(aO bas n).length)
    (hz:∀(i x:Nat),(aO bas n)[i]?=some x->w.cell? ⟨b,o+i,none⟩=some (.int .i64 x)) (hb:b<w.heap.size)
    (J:Lib.TabIs prog w "internal/strconv.uint64pow10" .u64 Lib.pow10Tab):
    Calls prog 225 #[.slice (some ⟨b,o,none⟩) (aO bas n).length c] w fun e w'=>e=.returned (.string (dec n))/\Below w.heap.size w w':=by
  obtain⟨L,hL⟩:∃L,(aO bas n).length=L:=⟨_,rfl⟩
  have h0:Lib.IsBuilder 280 5 w.heap.size w.heap.size (Lib.byteCells []) (w.alloc (.cells #[.pointer none,.slice none 0 0] 280)):=Lib.fresh_isBuilder 280 5 w
  have b0:Below w.heap.size w (w.alloc (.cells #[.pointer none,.slice none 0 0] 280)):=(Below.refl _ w).alloc (Xaf _) _
  obtain⟨x0,aa⟩:=aN (show L-1<(aO bas n).length by omega)
  have am:=hz _ _ aa
  have T:=bZ (b:=bas) (by decide) n x0 (Xae aa)
  have T:x0<1000000000:=T
  rw[hL]
  rw[hL]at af ac
  have an:((L:Int) == 0)=false:=by rw[beq_eq_false_iff_ne];omega
  go_enter Tryz.func225,Tryz.ntmps225
  go_wp2_with (go_at_call 224;refine(Tryz.strconv_Itoa (x0:Int) (by omega) (by omega) _ (Lib.tabIs_alloc J _)).mono ?_)
  rintro e W1 ⟨rfl,k,os,rfl⟩
  have O:Below w.heap.size w (grow ((w.alloc (.cells #[.pointer none,.slice none 0 0] 280)).drewN k) os):=b0.trans ⟨rfl,rfl,rfl,(mR k os).size,fun i hi=>(mR k os).block i (Xbw hi b0.size)⟩
  have h1:=tJ h0 (mR k os)
  generalize grow _ os=W1 at *
  have hI:∀x:Nat,(Lib.itoa (x:Int))=Lib.decDigits x:=Lib.itoa_nonneg
  have ae:∀x:Nat,x<1000000000->(Lib.decDigits x).length<=9:=fun x hx=>(jE (k:=9) (by omega)).2 hx
  have I:GU n (L-1)=Lib.decDigits x0:=by
    unfold GU
    rw[yP bas aa,show L-1+1=L by omega,<-hL,Xca]
    rfl
  have ad:(⟨(Lib.itoa (x0:Int)).toArray⟩:ByteArray).size<=9:=by rw[<-cF,iK,hI];exact ae _ T
  have cW:=tD w.heap.size w.heap.size [] _ W1 h1 (by simp only[List.length_nil];omega:([]:List UInt8).length+(⟨(Lib.itoa (x0:Int)).toArray⟩:ByteArray).size<=_) O.size
  go_wp2_with (go_at_call 262;refine cW.mono ?_)
  rintro e W2 ⟨rfl,h2,b2⟩
  rw[Xbf,iK,hI,<-I]at h2
  have b2:=O.trans b2
  have ak:∀k,(GU n k).length<=9437184:=fun k=>by
    have:=aeF ((bZ (b:=bas) (by decide) n).drop k) 1048576 (by rw[Xbd,hL];omega) (by omega)
    unfold GU
    omega
  clear h0 b0 h1 O ad I
  go_wp2
  go_loopg [4] (L-1) (fun g s4 wx=>∃k:Nat,k<=L-1/\g=k/\s4=.int .i64 ((k:Int)-1)/\Lib.IsBuilder 280 5 w.heap.size w.heap.size (Lib.byteCells (GU n k)) wx/\Below w.heap.size w wx)
  case atStart=>exact⟨L-1,Xaf _,rfl,by congr 1;omega,h2,b2⟩
  clear h2 b2
  case round=>
    obtain⟨_,hk,rfl,rfl,hB,u⟩:=hrel
    cases gk with
    | zero=>
      have ah:GU n 0=Lib.decDigits n:=by unfold GU;rw[Xbj,cD (by decide)]
      rw[ah]at hB
      have cS:=Tryz.Builder_String_any w.heap.size w.heap.size (Lib.decDigits n) wr hB u.size
      go_wp2_with (go_at_call 264;refine cS.mono ?_)
      rintro e W3 ⟨rfl,E⟩
      go_wp2
      go_ret
      exact⟨rfl,u.trans E⟩
    | succ i=>
      obtain⟨x,hx⟩:=aN (show i<(aO bas n).length by omega)
      have hl:=(u.cell hb).trans (hz i x hx)
      have ag:x<1000000000:=bZ (b:=bas) (by decide) n x (Xae hx)
      have ai:(((i+1:Nat):Int)-1)=(i:Int):=by omega
      have M:=UE (n:=n) (by omega) hx
      have ab:Lib.TabIs prog wr "internal/strconv.uint64pow10" .u64 Lib.pow10Tab:=Go.Joins.tab_stays (g:=1) (by kernel_rfl) J u (Xaf _)
      have al:=ak (i+1)
      rw[ai]
      go_wp2_with (go_at_call 224;refine(Tryz.strconv_Itoa (x:Int) (by omega) (by omega) _ ab).mono ?_)
      rintro e W1 ⟨rfl,k,os,rfl⟩
      have O:Below w.heap.size w (grow (wr.drewN k) os):=u.trans ⟨rfl,rfl,rfl,(mR k os).size,fun i hi=>(mR k os).block i (Xbw hi u.size)⟩
      have h1:=tJ hB (mR k os)
      clear hB ab
      generalize grow _ os=W1 at *
      have aj:=ae x ag
      rw[hI x]
      go_wp2_with (go_at_call 263;fail)
      have e9:(9:Int)-((Lib.decDigits x).length:Nat)=((9-(Lib.decDigits x).length:Nat):Int):=by omega
      rw[e9]
      refine(Tryz.strings_Repeat ⟨#[48]⟩ (9-(Lib.decDigits x).length) W1 (by omega) (by show 1*_<=_;omega)).mono ?_
      rintro e W3 ⟨rfl,E⟩
      have h3:=tJ h1 E
      have E:Below w.heap.size w W3:=O.trans ⟨E.os,E.tape,E.output,E.size,fun i hi=>E.block i (Xbw hi O.size)⟩
      have F:bl ⟨(Lib.repeatL (⟨#[48]⟩:ByteArray).data.toList (9-(Lib.decDigits x).length)).toArray⟩=List.replicate (9-(Lib.decDigits x).length) 48:=by
        rw[iK]
        have:=Lib.repeatL_replicate 48 1 (9-(Lib.decDigits x).length)
        rwa [Nat.mul_one]at this
      clear h1 O
      generalize (⟨(Lib.repeatL (⟨#[48]⟩:ByteArray).data.toList (9-(Lib.decDigits x).length)).toArray⟩:ByteArray)=Z at *
      have hZ:Z.size<=9:=by rw[<-cF,F,List.length_replicate];omega
      have cW:=tD w.heap.size w.heap.size _ Z W3 h3 (by omega) E.size
      go_wp2_with (go_at_call 262;refine cW.mono ?_)
      rintro e W4 ⟨rfl,h4,b4⟩
      have b4:=E.trans b4
      clear cW h3 E
      have hX:(⟨(Lib.decDigits x).toArray⟩:ByteArray).size<=9:=by rw[<-cF,iK];exact aj
      have cW:=tD w.heap.size w.heap.size _ ⟨(Lib.decDigits x).toArray⟩ W4 h4 (by rw[Xac,cF];omega) b4.size
      go_wp2_with (go_at_call 262;refine cW.mono ?_)
      rintro e W5 ⟨rfl,h5,b5⟩
      have b5:=b4.trans b5
      rw[Xai,F,iK]at h5
      go_wp2
      go_roundg i
      case measure=>omega
      case rel=>exact⟨i,by omega,rfl,rfl,by rw[M];exact h5,b5⟩
theorem Nf{S:Sg}{w:World}{b:Nat}:∀{l:List Nat} {o sz:Nat},0<sz->gX S w b sz o (l.map eO)->∀(i x:Nat),l[i]?=some x->w.cell? ⟨b,o+i,none⟩=some (.int .i64 x)
 | [],_,_,_,_,i,x,h=>by simp at h
 | y::l,o,sz,hp,h,i,x,hx=>by
   simp only[Xav,gX]at h;obtain⟨h1,E,I⟩:=h;have h1:sz=1:=h1.symm;subst h1;cases i with
   | zero=>
     simp only[List.getElem?_cons_zero,Option.some.injEq]at hx;subst hx;simp only[eO,cR]at E;obtain⟨⟨u,J,_,F⟩,_⟩:=E;simp only[rep]at F;subst F;exact J
   | succ i=>
     have:=Nf (by omega) I i x (by simpa using hx)
     rwa [Xcb,Xcc 1 i]at this
theorem X8{w:World}(h:∀t∈UT,qV w t.1=some t.2):Lib.TabIs prog w "internal/strconv.uint64pow10" .u64 Lib.pow10Tab:=by
 have h1:=h (1,WQ) (by simp[UT]);unfold Lib.TabIs World.var?;rw[show prog.globalNamed "internal/strconv.uint64pow10" = some 1 by kernel_rfl];exact h1
theorem Gb(n:Nat)(M:(aO bas n).length<=1048576):PC prog 225 [nl n] (str (dec n)):=by
 by_cases h0:n=0
 . subst h0
   rw[Ki];refine pcd Tryz.func225 ?_;unfold Tryz.f225;simp only[gdS];simp only[go_sem];refine aA (fun h=>?_) (fun h=>by simp at h);simp only[go_sem];refine cS ?_;refine jC ?_;rw[gO,Lib.decDigits_one (by omega)];rfl
 . intro S w vals J hf ha
   simp only[bG,rep]at ha;obtain⟨y,t,rfl,⟨ad,m,c,rfl,e1,e2,e3,O⟩,rfl⟩:=ha;have F:aO bas n≠[]:=fun e=>h0 ((mU (by decide)).1 e)
   have I:=Xbv.2 F;rw[Xaa]at e1;rcases O with O|⟨b,o,sz,rfl,Z,T,E⟩
   . simp only[List.map_eq_nil_iff]at O;exact absurd O F
   . subst e1
     refine(NG n w b o c M I (Nf T E) (J.fz_lt b (J.ro_fz b Z)) (X8 fun t ht=>(J.tabs t ht).2)).mono fun e w' ⟨he,u⟩=>?_
     exact⟨_,_,bY,S,he,rfl,J.after u.size fun k hk=>u.block k hk,by simp only[rep],J.grow u.os u.tape u.output u.size fun k hk=>u.block k hk,eY.refl _ _⟩
theorem BZ(n:Nat)(u:(aO bas n).length<=1048576):PC prog 181 [nl n] (.tup [str (szN n).1,int (szN n).2]):=by
 refine pcd Tryz.func181 ?_;unfold Tryz.f181;simp only[gdS];simp only[go_sem];refine PC.use (Gb n u) ?_;simp only[go_sem];have E:=gI n;refine aA (fun h=>?_) (fun h=>?_)
 . have h:4096<(dec n).size:=by simp at h;omega
   simp only[go_sem];rw[show szN n=(emp,4)from if_neg fun e=>by have:=E.2 e;omega];exact .refl _
 . have h:(dec n).size<=4096:=by simp at h;omega
   simp only[go_sem];rw[wK (E.1 h)];exact .refl _
end Go.Proofs.YtohmomanmikphaaGreatDoor.Nu
end
section
namespace Go.Proofs.YtohmomanmikphaaGreatDoor.Nu
open Go.Proofs.Tryz(prog)
open Go.Aw Go.Aw.D Go.Proofs Ty Go.Nu
theorem OY{n K:Nat}(h:n<cK)(u:Yj<=9*K):(aO bas n).length<=K:=by
 refine gF (b:=bas) (k:=K) (by decide) (Xbw h ?_);rw[show bas=10^9 from rfl,<-Nat.pow_mul];exact Xat (show 0<10 by omega) u
theorem kL{n:Nat}(h:n<cK):(aO bas n).length<=457:=OY h (by decide)
theorem VJ{H:aH}{o l:List Nat}(h:l=o):ConvE H (bR o).es (l.map eO):=h▸ConvE.refl _
theorem IP:∀l:List Nat,lW l=l.take (lW l).length
 | []=>rfl
 | x::l=>by
   have ih:=IP l;rw[lW];split
   . split <;> rfl
   . rename_i y t e
     rw[e]at ih;simp only[Xad,List.take_succ_cons]
     congr 1
theorem Ul{l:List Nat}(h:l.length<=(lW l).length):lW l=l:=by
 rw[IP l,Xan h]
theorem Xa(a b:ByteArray)(ha:a.size<=1048576)(F:b.size<=1048576):PC prog 168 [str a,str b] (.tup [str (QU a b).1,int (QU a b).2]):=by
 refine pcb (fun t=>t == 9) Tryz.func168 ?_;unfold Tryz.f168;simp only[gdS];simp only[go_sem];refine PC.use (Nw a b ha F) ?_;simp only[go_sem];refine aA (fun h=>?_) (fun h=>?_)
 . have h:iI a b≠0:=by simpa using h
   simp only[go_sem];rw[show QU a b=(emp,iI a b)from if_neg h];exact .refl _
 have h:iI a b=0:=by simpa using h
 obtain⟨m,n,rfl,rfl,hm,hn⟩:=pC h;have af:=kL hm;have ai:=kL hn;simp only[go_sem,Gr h,bU];rw[show QU (dec m) (dec n)=szN (m+n)by unfold QU;rw[if_pos h,bU,bU]];have om:=cD (b:=bas) (by decide) m;have on:=cD (b:=bas) (by decide) n;have lm:=bZ (b:=bas) (by decide) m;have ln:=bZ (b:=bas) (by decide) n;have ad:(aO bas m).length<=(aO bas m).length:=Xaf _;have aa:(aO bas n).length<=(aO bas n).length:=Xaf _;obtain⟨x,hx⟩:∃x,aO bas m=x:=⟨_,rfl⟩;obtain⟨y,hy⟩:∃y,aO bas n=y:=⟨_,rfl⟩;have ad:x.length<=(aO bas m).length:=by rw[hx];exact Xaf _
 have aa:y.length<=(aO bas n).length:=by rw[hy];exact Xaf _
 rw[hx]at om lm af;rw[hy]at on ln ai;simp only[hx,hy];refine aK fun j hj=>?_
 refine⟨fun ρ H=>∃(i j c:Nat) (o:List Nat),i<=max x.length y.length+1/\ρ 6=.sl (x.map eO)/\ρ 7=.sl (y.map eO)/\ρ 9=.os j/\ρ 10=int c/\ρ 11=int i/\H j=some (bR o)/\Lim bas o/\o.length=i/\c<=1/\ofL bas o+bas^i*c=ofL bas (x.take i)+ofL bas (y.take i)/\(i=max x.length y.length+1->c=0/\bas^max x.length y.length<=m+n),fun ρ _=>max x.length y.length+1-aT (ρ 11),
   ⟨0,j,0,[],Xab _,by simp only[go_sem],by simp only[go_sem],by simp only[go_sem],by simp only[go_sem];rfl,by simp only[go_sem];rfl,zE,by simp[Lim],rfl,by omega,by simp[ofL],by omega⟩,?_⟩
 clear hj j;rintro ρ H ⟨i,j,c,o,hi,T,h7,Z,E,u,Rj,ho,O,hc,hv,I⟩;have ae:kF (x.length:Int) (y.length:Int)=((max x.length y.length:Nat):Int):=by unfold kF;split <;> omega
 simp only[go_sem,T,h7,Z,E,u,ae];refine aA (fun F=>?_) (fun F=>?_)
 . have F:i<max x.length y.length\/0<c:=by simpa using F
   have am:i<=max x.length y.length:=by
     rcases F with F|F
     . omega
     . rcases Xar (max x.length y.length) i with h|h
       . have:=(I (by omega)).1;omega
       . exact h
   have ak:x.getD i 0<1000000000:=lm.getD (by decide) i;have al:y.getD i 0<1000000000:=ln.getD (by decide) i;have ah:=K8 (b:=bas) (by decide) O hv;have M:i+1=max x.length y.length+1->(x.getD i 0+y.getD i 0+c)/bas=0/\bas^max x.length y.length<=m+n:=fun e=>by
     have e:i=max x.length y.length:=by omega
     have ag:x.getD i 0=0:=by simp[List.getD,List.getElem?_eq_none (by omega:x.length<=i)]
     have aj:y.getD i 0=0:=by simp[List.getD,List.getElem?_eq_none (by omega:y.length<=i)]
     have ab:c=1:=by omega
     rw[ag,aj,ab];refine⟨by decide,?_⟩;rw[Xan (by omega),Xan (by omega),om,on,ab,e]at hv;omega
   simp only[go_sem,T,h7,Z,E,u];refine PC.use (PY x i (by omega)) ?_;simp only[go_sem,T,h7,Z,E,u];refine PC.use (PY y i (by omega)) ?_;have e1:IntKind.i64.wrap (IntKind.i64.wrap (((x.getD i 0:Nat):Int)+((y.getD i 0:Nat):Int))+(c:Int))=((x.getD i 0+y.getD i 0+c:Nat):Int):=by
     rw[show IntKind.i64.wrap (((x.getD i 0:Nat):Int)+((y.getD i 0:Nat):Int))=((x.getD i 0:Nat):Int)+((y.getD i 0:Nat):Int)from aR (by omega),aR (by omega)];omega
   have e2:IntKind.i64.wrap ((((x.getD i 0+y.getD i 0+c:Nat):Int)).tdiv 1000000000)=(((x.getD i 0+y.getD i 0+c)/1000000000:Nat):Int):=by
     rw[Xcn (by omega),aR (by omega)];omega
   have e3:(((x.getD i 0+y.getD i 0+c:Nat):Int)).tmod 1000000000=(((x.getD i 0+y.getD i 0+c)%1000000000:Nat):Int):=by
     rw[Xcp (by omega)];omega
   have hq:(x.getD i 0+y.getD i 0+c)/1000000000<=1:=by omega
   simp only[go_sem,T,h7,Z,E,u,e1,e2,e3];refine⟨by decide,?_⟩;refine aX Rj ⟨rfl,rfl⟩ ⟨rfl,trivial⟩ (by simp only[bR,Xaa,Xad,List.length_nil];omega) (fun j' an=>?_);simp only[go_sem,T,h7,Z,E,u,e2,aP (show i<=4611686018427387904 by omega)];exact⟨by decide,⟨i+1,j',_,o++[(x.getD i 0+y.getD i 0+c)%bas],by omega,rfl,rfl,rfl,nV,ho.snoc (Xbm _ (by decide)),by simp[O],hq,ah,M⟩,by simp only[aE];omega⟩
 . have F : max x.length y.length <= i /\ c = 0 := by
     simp at F;omega
   obtain⟨F,rfl⟩:=F;rw[Nat.mul_zero,Nat.add_zero,Xan (by omega),Xan (by omega),om,on]at hv;have ht:=J2 (b:=bas) (by decide) ho hv;have ac:o.length<=(aO bas (m+n)).length:=by
     rcases Xar (max x.length y.length) i with h|h
     . have:=Jx (b:=bas) (by decide) (I (by omega)).2
       omega
     . rw[O,show i=max x.length y.length by omega]
       exact Nat.max_le.2 ⟨Xaj ad (cC (by decide) (Nat.le_add_right m n)),Xaj aa (cC (by decide) (Nat.le_add_left n m))⟩
   have J:aO bas (m+n)=o:=by
     rw[<-ht];refine Ul ?_;rw[ht] ;exact ac
   simp only[go_sem,T,h7,Z,E,u];refine PC.useF [j] (.cons _ _ _ _ (.row _ _ _ (by simp only[Xaq,if_true];exact Rj) (VJ J)) .nil) (BZ (m+n) (by rw[J];omega)) ?_;simp only[go_sem];exact .refl _
theorem XP(a b:ByteArray)(ha:a.size<=1048576)(M:b.size<=1048576):PC prog 169 [str a,str b] (.tup [str (OW a b).1,int (OW a b).2]):=by
 refine pcd Tryz.func169 ?_;unfold Tryz.f169;simp only[gdS];simp only[go_sem];refine PC.use (Nw a b ha M) ?_;simp only[go_sem];refine aA (fun h=>?_) (fun h=>?_)
 . have h:iI a b≠0:=by simpa using h
   simp only[go_sem];rw[show OW a b=(emp,iI a b)from if_neg h];exact .refl _
 have h:iI a b=0:=by simpa using h
 obtain⟨m,n,rfl,rfl,Z,T⟩:=pC h;have O:=kL Z;have J:=kL T;simp only[go_sem,Gr h,bU];have e:OW (dec m) (dec n)=if m<n then(emp,2)else szN (m-n):=by unfold OW;rw[if_pos h,bU,bU]
 rw[e];refine PC.use (C7 m n (by omega) (by omega)) ?_;simp only[go_sem];refine aA (fun u=>?_) (fun u=>?_)
 . have I : m < n := by
     rcases Xar m n with E|E
     . exact E
     . exfalso
       have u:=of_decide_eq_true u;unfold fR at u;rw[if_neg (by omega)]at u;split at u <;> omega
   simp only[go_sem];rw[if_pos I];exact .refl _
 . have F:¬m<n:=fun E=>of_decide_eq_false u (by rw[gV (by omega)];decide)
   simp only[go_sem];rw[if_neg F];refine PC.use (Er m n (by omega) (by omega)) ?_;simp only[go_sem];refine PC.use (BZ (m-n) (by have:=cC (b:=bas) (by decide) (Nat.sub_le m n);omega)) ?_;simp only[go_sem];exact .refl _
theorem ahD(a b:ByteArray)(O:a.size<=1048576)(F:b.size<=1048576):PC prog 167 [str a,str b] (.tup [str (By a b).1,str (By a b).2.1,int (By a b).2.2]):=by
 refine pcd Tryz.func167 ?_;unfold Tryz.f167;simp only[gdS];simp only[go_sem];refine PC.use (Nw a b O F) ?_;simp only[go_sem];refine aA (fun h=>?_) (fun h=>?_)
 . have h:iI a b≠0:=by simpa using h
   simp only[go_sem];rw[show By a b=(emp,emp,iI a b)from if_neg h];exact .refl _
 have h:iI a b=0:=by simpa using h
 obtain⟨m,n,rfl,rfl,M,J⟩:=pC h;have I:=kL M;have E:=kL J;simp only[go_sem,Gr h,bU,Xaa];have e:By (dec m) (dec n)=if n=0 then(emp,emp,10)else(dec (m/n),dec (m%n),0):=by unfold By;rw[if_pos h,bU,bU]
 rw[e];refine aA (fun u=>?_) (fun u=>?_)
 . have h0:n=0:=(mU (b:=bas) (by decide)).1 (by simpa using u)
   simp only[go_sem];rw[if_pos h0];exact .refl _
 . have h0:n≠0:=fun e=>by subst e;rw[dD]at u;simp at u
   simp only[go_sem];rw[if_neg h0];refine PC.use (N3 m n (by omega) (by omega) (by omega)) ?_;simp only[go_sem];refine PC.use (Gb (m/n) (by have:=cC (b:=bas) (by decide) (Nat.div_le_self m n);omega)) ?_;simp only[go_sem];refine PC.use (Gb (m%n) (by have:=cC (b:=bas) (by decide) (Nat.mod_le m n);omega)) ?_;simp only[go_sem];exact .refl _
theorem Wx(a b:ByteArray)(ha:a.size<=1048576)(u:b.size<=1048576):PC prog 111 [str a,str b] (.tup [str (xC a b).1,int (xC a b).2]):=by
 refine pcd Tryz.func111 ?_;unfold Tryz.f111;simp only[gdS];simp only[go_sem];refine PC.use (Nw a b ha u) ?_;simp only[go_sem];refine aA (fun h=>?_) (fun h=>?_)
 . have h:iI a b≠0:=by simpa using h
   simp only[go_sem];rw[show xC a b=(emp,iI a b)from if_neg h];exact .refl _
 have h:iI a b=0:=by simpa using h
 obtain⟨m,n,rfl,rfl,hm,hn⟩:=pC h;have O:=kL hm;have Z:=kL hn;simp only[go_sem,Gr h,bU];have e:xC (dec m) (dec n)=szN (Nat.gcd m n):=by unfold xC;rw[if_pos h,bU,bU]
 rw[e];refine⟨fun ρ _=>∃p q:Nat,ρ 6=nl p/\ρ 7=nl q/\(aO bas p).length<=457/\(aO bas q).length<=457/\Nat.gcd p q=Nat.gcd m n,fun ρ _=>match ρ 7 with| .sl es=>ofL bas (es.map fun c=>aT (c.getD 0 .any))|_=>0,⟨m,n,by simp only[go_sem],by simp only[go_sem],O,Z,rfl⟩,?_⟩;rintro ρ H ⟨p,q,J,M,aa,F,T⟩;have I:∀q:Nat,ofL bas (((aO bas q).map eO).map fun c=>aT (c.getD 0 .any))=q:=fun q=>by
   rw[List.map_map,show((fun c:List AV=>aT (c.getD 0 .any)) ∘ eO)=id from funext fun n=>by simp[eO,aT],List.map_id,cD (by decide)]
 simp only[go_sem,J,M,Xaa];refine aA (fun u=>?_) (fun u=>?_)
 . have E : 0 < q := by
     rcases Xbx q with h0|h0
     . subst h0;rw[dD]at u;simp at u
     . exact h0
   simp only[go_sem,J,M];refine PC.use (N3 p q (by omega) E (by omega)) ?_;simp only[go_sem,J,M];refine⟨⟨q,p%q,rfl,rfl,F,Xaj (cC (by decide) (Nat.le_of_lt (Xbm p E))) F,?_⟩,?_⟩
   . rw[<-T,Nat.gcd_comm p q,Nat.gcd_rec q p,Nat.gcd_comm]
   . rw[I,I];exact Xbm p E
 . have E : q = 0 := by
     have:(aO bas q).length=0:=by simp at u;simpa using u
     exact(mU (b:=bas) (by decide)).1 (List.eq_nil_of_length_eq_zero this)
   subst E;simp only[go_sem,J,M];rw[Nat.gcd_zero_right]at T;rw[<-T];refine PC.use (BZ p (by omega)) ?_;simp only[go_sem];exact .refl _
theorem Q5{b:Nat}(F:0<b){l:List Nat}{q p:Nat}(h:ofL b l<b^q)(E:q<=p)(I:p<l.length):l[p]?=some 0:=by
 obtain⟨x,u⟩:=aN I;rcases Xbx x with h0|h0
 . rw[u,h0]
 . exfalso
   have J:ofL b l=ofL b (l.take p)+b^p*ofL b (l.drop p):=by
     have:=oP b (l.take p) (l.drop p);rw[Xcm,Xal,Xcl (by omega)]at this;exact this
   rw[yP b u]at J;have h1:b^p*1<=b^p*(x+b*ofL b (l.drop (p+1))):=Nat.mul_le_mul_left _ (by omega);have M:b^q<=b^p:=Xat F E;omega
theorem ajI(a b:ByteArray)(ha:a.size<=1048576)(hb:b.size<=1048576):PC prog 295 [str a,str b] (.tup [str (Pf a b).1,int (Pf a b).2]):=by
 refine pcb (fun t=>t == 9) Tryz.func295 ?_;unfold Tryz.f295;simp only[gdS];simp only[go_sem];refine PC.use (Nw a b ha hb) ?_;simp only[go_sem];refine aA (fun h=>?_) (fun h=>?_)
 . have h:iI a b≠0:=by simpa using h
   simp only[go_sem];rw[show Pf a b=(emp,iI a b)from if_neg h];exact .refl _
 have h:iI a b=0:=by simpa using h
 obtain⟨m,n,rfl,rfl,hm,hn⟩:=pC h;have au:=kL hm;have ar:=kL hn;simp only[go_sem,Gr h,bU,Xaa];rw[show Pf (dec m) (dec n)=szN (m*n)by unfold Pf;rw[if_pos h,bU,bU]];have om:=cD (b:=bas) (by decide) m;have on:=cD (b:=bas) (by decide) n;have lm:=bZ (b:=bas) (by decide) m;have ln:=bZ (b:=bas) (by decide) n;have ap:(aO bas (m*n)).length<=(aO bas m).length+(aO bas n).length:=by
   refine gF (by decide) ?_;have h1:=iR (b:=bas) (by decide) lm;have h2:=iR (b:=bas) (by decide) ln;rw[om]at h1;rw[on]at h2;rw[Nat.pow_add];exact Nat.mul_lt_mul'' h1 h2
 obtain⟨x,hx⟩:∃x,aO bas m=x:=⟨_,rfl⟩;obtain⟨y,hy⟩:∃y,aO bas n=y:=⟨_,rfl⟩;rw[hx]at om lm au ap;rw[hy]at on ln ar ap;have ew:IntKind.i64.wrap ((x.length:Int)+(y.length:Int))=((x.length+y.length:Nat):Int):=by rw[aR (by omega)];omega
 simp only[hx,hy,ew];refine⟨by omega,aK fun j hj=>?_⟩;simp only[go_sem];refine⟨fun ρ H=>∃(i:Nat) (out:List Nat),i<=x.length/\ρ 7=.sl (y.map eO)/\ρ 9=.os j/\ρ 32=.sl (x.map eO)/\ρ 33=int x.length/\ρ 34=int i/\H j=some (bR out)/\Lim bas out/\out.length=x.length+y.length/\ofL bas out=ofL bas (x.take i)*ofL bas y,fun ρ _=>x.length-aT (ρ 34),
   ⟨0,List.replicate (x.length+y.length) 0,Xab _,by simp only[go_sem],by simp only[go_sem],by simp only[go_sem],by simp only[go_sem,Xaa],by simp only[go_sem];rfl,?_,Lim.zeros (by decide) _,by simp,by simp[ofL,Iw]⟩,?_⟩
 . rw[aB]
   simp only[bR,List.map_replicate,zG];rfl
 clear hj;rintro ρ H ⟨i,out,hi,h7,T,F,E,u,Rj,ho,aq,hv⟩;simp only[go_sem,h7,T,F,E,u];refine aA (fun Z=>?_) (fun ak=>?_)
 . have Z:=ltB Z
   obtain⟨I,am⟩:=aN Z;have b1:=inB Z;have a0:I<1000000000:=lm I (Xae am);have av:out[i+y.length]?=some 0:=by
     refine Q5 (b:=bas) (by decide) (q:=i+y.length) ?_ (Xaf _) (by omega);rw[hv,Nat.pow_add];have h1:=iR (b:=bas) (by decide) (lm.take i);rw[Xal,Xcl hi]at h1;exact Nat.mul_lt_mul'' h1 (iR (b:=bas) (by decide) ln)
   simp only[go_sem,h7,T,F,E,u,aF am,b1,Xaa];refine⟨fun ρ H=>∃(k c:Nat) (o:List Nat),k<=y.length/\ρ 7=.sl (y.map eO)/\ρ 9=.os j/\ρ 10=int i/\ρ 11=int I/\ρ 12=int c/\ρ 32=.sl (x.map eO)/\ρ 33=int x.length/\ρ 34=int i/\ρ 39=.sl (y.map eO)/\ρ 40=int y.length/\ρ 41=int k/\H j=some (bR o)/\Lim bas o/\o.length=x.length+y.length/\c<1000000000/\ofL bas o+bas^(i+k)*c=ofL bas out+bas^i*(I*ofL bas (y.take k))/\o[i+y.length]?=some 0,fun ρ _=>y.length-aT (ρ 41),
     ⟨0,0,out,Xab _,by simp only[go_sem,h7],by simp only[go_sem,T],by simp only[go_sem],by simp only[go_sem],by simp only[go_sem];rfl,by simp only[go_sem,F],by simp only[go_sem,E],by simp only[go_sem,u],by simp only[go_sem,h7],by simp only[go_sem,Xaa],by simp only[go_sem];rfl,Rj,ho,aq,by omega,by simp[ofL],av⟩,?_⟩
   clear h7 T F E u Rj;rintro ρ H ⟨k,c,o,hk,h7,T,ag,aa,ab,F,E,u,af,ac,ad,Rj,hO,an,hc,hV,hZ⟩;simp only[go_sem,h7,T,ag,aa,ab,F,E,u,af,ac,ad];refine aA (fun J=>?_) (fun ae=>?_)
   . have J:=ltB J
     obtain⟨O,ai⟩:=aN J;have b2:=inB J;have ay:O<1000000000:=ln O (Xae ai);obtain⟨v,ah⟩:=aN (show i+k<o.length by omega);have az:v<1000000000:=hO v (Xae ah);have b3:0<=((i+k:Nat):Int)/\((i+k:Nat):Int)<((bR o).es.length:Nat):=by
       simp only[bR,Xaa];omega
     have ei:IntKind.i64.wrap ((i:Int)+(k:Int))=((i+k:Nat):Int):=by rw[aR (by omega)];omega
     have al:(bR o).es.getD (i+k) []=eO v:=aF ah;have ax:I*O<=999999999*999999999:=Nat.mul_le_mul (by omega) (by omega);have aw:=Mq (b:=bas) (by decide) ah ai hV;have e1:IntKind.i64.wrap (IntKind.i64.wrap ((v:Int)+IntKind.i64.wrap ((I:Int)*(O:Int)))+(c:Int))=((v+I*O+c:Nat):Int):=by
       rw[show(I:Int)*(O:Int)=((I*O:Nat):Int)from(Int.natCast_mul I O).symm];generalize I*O=p at *;rw[show IntKind.i64.wrap (p:Int)=(p:Int)from aR (by omega),show IntKind.i64.wrap ((v:Int)+(p:Int))=(v:Int)+p from aR (by omega),aR (by omega)];omega
     have hq:(v+I*O+c)/1000000000<1000000000:=by omega
     have e2:IntKind.i64.wrap ((((v+I*O+c:Nat):Int)).tdiv 1000000000)=(((v+I*O+c)/1000000000:Nat):Int):=by
       generalize v+I*O+c=p at *;rw[Xcn (by omega),aR (by omega)];omega
     have e3:(((v+I*O+c:Nat):Int)).tmod 1000000000=(((v+I*O+c)%1000000000:Nat):Int):=by
       rw[Xcp (by omega)];omega
     simp only[go_sem,h7,T,ag,aa,ab,F,E,u,af,ac,ad,aF ai,b2,ei,Rj,b3,al,e1,e2,e3];have M:i+k<(bR o).es.length:=by simp only[bR,Xaa];omega
     refine⟨rfl,⟨M,Nat.zero_lt_one⟩,by decide,rfl,eM so3 Rj ⟨M,rfl,Xaf 1⟩ ?_⟩;generalize hP:aI H j _=HP;have aj:HP j=some (bR (o.set (i+k) ((v+I*O+c)%bas))):=by
       rw[<-hP,aB];exact congrArg some (zM (q:=(v+I*O+c)%bas) ah)
     clear hP Rj;simp only[go_sem,h7,T,ag,aa,ab,F,E,u,af,ac,ad,e2,aP (show k<=4611686018427387904 by omega)];refine⟨by decide,⟨k+1,_,_,J,rfl,rfl,aj,hO.set (Xbm _ (by decide)),by simp[an],hq,aw,?_⟩,by simp only[aE];omega⟩;rw[List.getElem?_set_ne (by omega)];exact hZ
   . have ae:=geB hk ae
     subst ae;have ei:IntKind.i64.wrap ((i:Int)+(y.length:Int))=((i+y.length:Nat):Int):=by rw[aR (by omega)];omega
     have M:i+y.length<(bR o).es.length:=by simp only[bR,Xaa];omega
     have b3:0<=((i+y.length:Nat):Int)/\((i+y.length:Nat):Int)<((bR o).es.length:Nat):=by omega
     have al:(bR o).es.getD (i+y.length) []=eO 0:=aF hZ;have e1:IntKind.i64.wrap (((0:Nat):Int)+(c:Int))=(c:Int):=by rw[aR (by omega)];omega
     simp only[go_sem,h7,T,ag,aa,ab,F,E,u,af,ac,ad,Xaa,ei,Rj,b3,al,e1];refine⟨rfl,⟨M,Nat.zero_lt_one⟩,rfl,eM so3 Rj ⟨M,rfl,Xaf 1⟩ ?_⟩;generalize hP:aI H j _=HP;have aj:HP j=some (bR (o.set (i+y.length) c)):=by
       rw[<-hP,aB];exact congrArg some (zM (q:=c) hZ)
     clear hP Rj;have ao:=RZ (b:=bas) hZ hV;simp only[go_sem,h7,T,ag,aa,ab,F,E,u,af,ac,ad,aP (show i<=4611686018427387904 by omega)];refine⟨⟨i+1,_,Z,rfl,aj,hO.set hc,by simp[an],?_⟩,by simp only[aE];omega⟩;rw[ao,hv,jA bas am,Nat.add_mul,Nat.mul_assoc]
 . have ak:=geB hi ak
   subst ak;simp only[go_sem,T];rw[Xag,om,on]at hv;refine PC.useF [j] (.cons _ _ _ _ (.row _ _ _ (by simp only[Xaq,if_true];exact Rj) (ConvE.refl _)) .nil) (I6 ho (by omega) hv) ?_;simp only[go_sem];refine PC.use (BZ (m*n) (by omega)) ?_;simp only[go_sem];exact .refl _
end Go.Proofs.YtohmomanmikphaaGreatDoor.Nu
end
section
namespace Go.Proofs.YtohmomanmikphaaGreatDoor.Nu
open Go.Proofs.Tryz(prog)
open Go.Aw Go.Aw.D Go.Proofs Ty Go.Nu
open Go.RowKit (Below)
theorem Ns(s:ByteArray):Lib.hasPrefix (bl s) [45]=eJ s:=by
 unfold Lib.hasPrefix eJ;cases bl s with
 | nil=>rfl
 | cons c r=>
   by_cases h:c=45
   . subst h;rfl
   . have h1:(some c == some (45:UInt8))=false:=by simpa using h
     have u:((45:UInt8) == c)=false:=by simpa using Ne.symm h
     simp only[List.isPrefixOf,List.head?_cons,h1,u,Bool.false_and]
theorem Iy(s:ByteArray):(⟨(Lib.trimPrefix (bl s) [45]).toArray⟩:ByteArray)=dP s:=by
 unfold Lib.trimPrefix dP;rw[Ns];split
 . rfl
 . exact alP s
theorem O7(s:ByteArray):PC prog 184 [str s,str ⟨#[45]⟩] (.tup [str (dP s),boo (eJ s)]):=by
 refine PC.lib (a:=[.string s,.string ⟨#[45]⟩]) (v:=.tuple #[.string (dP s),.bool (eJ s)]) (fun S w=>⟨_,rfl,⟨_,_,rfl,rfl,⟨_,_,rfl,rfl,rfl⟩⟩⟩) fun w _=>(Tryz.strings_CutPrefix s ⟨#[45]⟩ w).mono fun e w' ⟨E,u⟩=>?_
 rw[u];refine⟨E.trans ?_,Below.refl _ _⟩;rw[show s.data.toList=bl s from rfl,show(⟨#[45]⟩:ByteArray).data.toList=[45]from rfl,Iy,Ns]
theorem xX(s:ByteArray):PC prog 112 [str s,str ⟨#[45]⟩] (str (dP s)):=by
 refine PC.lib (a:=[.string s,.string ⟨#[45]⟩]) (v:=.string (dP s)) (fun S w=>rfl) fun w _=>(Tryz.strings_TrimPrefix s ⟨#[45]⟩ w).mono fun e w' ⟨E,u⟩=>?_
 rw[u];refine⟨E.trans ?_,Below.refl _ _⟩;rw[show s.data.toList=bl s from rfl,show(⟨#[45]⟩:ByteArray).data.toList=[45]from rfl,Iy]
theorem On(n:Int)(h0: -9223372036854775808<=n)(h1:n<=9223372036854775807):PC prog 224 [int n] (str (zed n)):=by
 refine PC.lib (a:=[.int .i64 n]) (v:=.string (zed n)) (fun S w=>rfl) fun w F=>(Tryz.strconv_Itoa n h0 h1 w (X8 F)).mono fun e w' ⟨E,k,os,u⟩=>?_
 rw[u];exact⟨E,mR k os⟩
theorem PM(a b:ByteArray):PC prog 229 [str a,str b] (int (Lib.compareBytes (bl a) (bl b))):=by
 refine PC.lib (a:=[.string a,.string b]) (v:=.int .i64 (Lib.compareBytes (bl a) (bl b))) (fun S w=>rfl) fun w _=>(Tryz.strings_Compare a b w).mono fun e w' ⟨E,u⟩=>?_
 rw[u];exact⟨E,Below.refl _ _⟩
theorem pI:(⟨#[48]⟩:ByteArray)=dec 0:=jC (by rw[gO,Lib.decDigits_one (by omega)];rfl)
theorem B7:(⟨#[49]⟩:ByteArray)=dec 1:=jC (by rw[gO,Lib.decDigits_one (by omega)];rfl)
theorem lK(s:ByteArray):(bl s == [48])=eqB s (dec 0):=by unfold eqB;rw[<-pI];rfl
theorem Cp(s:ByteArray):(bl s == [49])=eqB s (dec 1):=by unfold eqB;rw[<-B7];rfl
theorem BJ(s:ByteArray):(dP s).size<=s.size:=by
 unfold dP;split
 . rw[<-cF,<-cF,iK,Xbd];omega
 . exact Xaf _
theorem Bn(s:ByteArray)(h:s.size<=1048576):PC prog 114 [str s] (.tup [boo (eJ s),str (dP s),boo (dV s)]):=by
 refine pcd Tryz.func114 ?_;unfold Tryz.f114;simp only[gdS];simp only[go_sem];refine PC.use (O7 s) ?_;simp only[go_sem];refine PC.use (BV (dP s) (by have:=BJ s;omega)) ?_;simp only[go_sem,lK];exact .refl _
theorem V8(s:ByteArray)(h:s.size<=1048576):PC prog 107 [str s] (boo (dV s)):=by
 refine pcd Tryz.func107 ?_;unfold Tryz.f107;simp only[gdS];simp only[go_sem];refine PC.use (Bn s h) ?_;simp only[go_sem];exact .refl _
theorem akW(n:Int)(h0: -9223372036854775808<=n)(h1:n<=9223372036854775807):PC prog 165 [int n] (str (zed n)):=by
 refine pcd Tryz.func165 ?_;unfold Tryz.f165;simp only[gdS];simp only[go_sem];refine PC.use (On n h0 h1) ?_;simp only[go_sem];exact .refl _
theorem Zk(s:ByteArray)(h:s.size<=1048576):PC prog 65 [str s] (int (xG s)):=by
 refine pcd Tryz.func65 ?_;unfold Tryz.f65;simp only[gdS];simp only[go_sem];refine PC.use (Bn s h) ?_;simp only[go_sem,lK];refine aA (fun E=>?_) (fun E=>?_)
 . simp only[go_sem]
   refine cI ?_;unfold xG;by_cases u:dV s=true
   . rw[if_pos u]
     have I:eqB (dP s) (dec 0)=true:=by rw[u]at E;simpa using E
     have:eU s=0:=by
       unfold eU;rw[jQ.1 I,bU];split <;> rfl
     rw[this];rfl
   . rw[if_neg u]
 . have u:dV s=true/\eqB (dP s) (dec 0)=false:=by simpa using E
   have J:dC (dP s)=true:=by
     have:=u.1;unfold dV at this;simp only[Xap]at this;exact this.1
   have M:0<dU (dP s):=by
     rcases Xbx (dU (dP s))with h0|h0
     . have:=iB J
       rw[h0]at this;exact absurd this.symm (kW.1 u.2)
     . exact h0
   simp only[go_sem];refine aA (fun F=>?_) (fun F=>?_)
   . simp only[go_sem]
     refine cI ?_;unfold xG eU;rw[if_pos u.1,if_pos F,Int.sign_eq_neg_one_of_neg (by omega)]
   . simp only[go_sem]
     refine cI ?_;unfold xG eU;rw[if_pos u.1,if_neg (by rw[F];simp),Int.sign_eq_one_of_pos (by omega)]
def sg(m:Bool)(n:Nat):Int:=if m=true then -(n:Int)else n
theorem abU(m:Bool)(n:Nat):(if(m&& !eqB (dec n) (dec 0))=true then(⟨#[45]⟩:ByteArray)++dec n else dec n)=zed (sg m n):=by
 unfold sg;by_cases u:n=0
 . subst u
   rw[show eqB (dec 0) (dec 0)=true from jQ.2 rfl];simp only[Xcg,Bool.and_false,Xbb,if_false];rw[<-cN];split <;> rfl
 . rw[show eqB (dec n) (dec 0)=false from kW.2 fun e=>u (pB.1 e)]
   cases m with
   | true=>
     simp only[Bool.not_false,Xco,if_true];rw[Bu (by omega)];refine jC ?_;rw[kM,iK,gO];rfl
   | false=>
     simp only[Bool.false_and,Xbb,if_false];rw[cN]
theorem Qq(m:Bool)(n:Nat)(I:(dec n).size<=1048576):PC prog 170 [.agg [boo m,str (dec n)]] (str (zed (sg m n))):=by
 refine pcb (fun t=>t == 1) Tryz.func170 ?_;unfold Tryz.f170;simp only[gdS];simp only[go_sem];refine aK fun j J=>?_
 have R:=aB bY j (some ⟨208,2,[[boo m,str (dec n)]]⟩);generalize aI bY j _=H1 at R |-;simp only[go_sem,R];have u:=abU m n;have F:(m&& !bl (dec n) == [48])=(m&& !eqB (dec n) (dec 0)):=by rw[<-lK]
 rw[F];refine aA (fun E=>?_) (fun E=>?_)
 . rw[if_pos E]at u
   simp only[go_sem,R];refine⟨by show((1+(dec n).size:Nat):Int)<=9223372036854775807;omega,?_⟩;exact cS u
 . rw[if_neg (by rw[E];simp)]at u
   simp only[go_sem,R];exact cS u
theorem XU(m:Bool)(n:Nat):(sg m n).natAbs=n:=by unfold sg;split <;> omega
theorem E5(m:Bool)(n:Nat):PC prog 260 [.agg [boo m,str (szN n).1],int (szN n).2] (.tup [str (szZ (sg m n)).1,int (szZ (sg m n)).2]):=by
 by_cases u:n<cK
 . have F:=(gI n).2 u
   rw[wK u,show szZ (sg m n)=(zed (sg m n),0)from if_pos (by rw[XU];exact u)];refine pcb (fun t=>t == 2) Tryz.func260 ?_;unfold Tryz.f260;simp only[gdS];simp only[go_sem];refine aK fun j I=>?_
   have R:=aB bY j (some ⟨208,2,[[boo m,str (dec n)]]⟩);generalize aI bY j _=H1 at R |-;simp only[go_sem,R];refine aA (fun E=>by cases E) (fun _=>?_);simp only[go_sem,R];refine PC.use (Qq m n (by omega)) ?_;simp only[go_sem];exact .refl _
 . rw[show szN n=(emp,4)from if_neg u,show szZ (sg m n)=(emp,4)from if_neg (by rw[XU];exact u)]
   refine pcb (fun t=>t == 2) Tryz.func260 ?_;unfold Tryz.f260;simp only[gdS];simp only[go_sem];refine aK fun j I=>?_
   simp only[go_sem];refine aA (fun E=>?_) (fun E=>by cases E);simp only[go_sem];exact .refl _
def Ea(s:ByteArray):List AV:=[boo (eJ s),str (dP s)]
theorem Ld(s:ByteArray):(Ea s).length=2:=(rfl)
theorem ahT(s:ByteArray):(Ea s).getD 0 .any=boo (eJ s):=(rfl)
theorem aiX(s:ByteArray):(Ea s).getD 1 .any=str (dP s):=(rfl)
theorem V5(s:ByteArray):(Ea s).take 2=Ea s:=(rfl)
attribute [go_sem] Ld ahT aiX V5
def Eh(l:List ByteArray):Row:=⟨208,2,l.map Ea⟩
def VO(s:ByteArray):Bool:=decide ((dP s).size>4096)
def GR(l:List ByteArray):Int:=if l.any (fun s=> !dV s)=true then 3 else if l.any VO=true then 4 else 0
def zL(l:List ByteArray):List (List AV):=if GR l=0 then l.map Ea else[]
theorem BP{α:Type}{q:α->Bool}{l:List α}{k:Nat}{c:α}(h:l[k]?=some c)(u:q c=true):l.any q=true:=Xbk.2 ⟨c,Xae h,u⟩
theorem xT{α:Type}{q:α->Bool}{l:List α}(h:∀c∈l,q c=false):l.any q=false:=by
 rw[List.any_eq_false];intro c u;rw[h c u];simp
theorem ZY(l:List ByteArray)(hl:l.length<=1048576)(hs:∀s∈l,s.size<=1048576):PC prog 166 [.sl (l.map Go.Aw.D.fA)] (.tup [.sl (zL l),int (GR l)]):=by
 refine pcb (fun t=>t == 4) Tryz.func166 ?_;unfold Tryz.f166;simp only[gdS];simp only[go_sem];refine aK fun j hj=>?_
 simp only[go_sem];refine⟨fun ρ H=>∃(k j:Nat),k<=l.length/\ρ 12=.sl (l.map Go.Aw.D.fA)/\ρ 13=int l.length/\ρ 4=.os j/\ρ 14=int k/\H j=some (Eh (l.take k))/\∀s∈l.take k,dV s=true,fun ρ _=>l.length-aT (ρ 14),
   ⟨0,j,Xab _,by simp only[go_sem],by simp only[go_sem,Xaa],by simp only[go_sem],by simp only[go_sem];rfl,aB _ _ _,by simp⟩,?_⟩
 clear hj j;rintro ρ H ⟨k,j,hk,J,O,F,M,T,hz⟩;simp only[go_sem,J,O,F,M];refine aA (fun u=>?_) (fun I=>?_)
 . have u:=ltB u
   obtain⟨s,E⟩:=aN u;have b1:=inB u;simp only[go_sem,J,O,F,M,aF E,b1];refine PC.use (Bn s (hs s (Xae E))) ?_;simp only[go_sem,J,O,F,M];refine aA (fun hb=>?_) (fun hb=>?_)
   . simp only[go_sem]
     have e:GR l=3:=by unfold GR;rw[if_pos (BP E hb)]
     rw[show zL l=[]from if_neg (by rw[e];decide),e];exact .refl _
   . simp only[go_sem,J,O,F,M]
     refine aX T ⟨rfl,rfl⟩ ⟨rfl,trivial⟩ (by simp only[Eh,Xaa,Xal,Xad,List.length_nil];omega) (fun j' ai=>?_);simp only[go_sem,J,O,F,M,aP (show k<=4611686018427387904 by omega)];refine⟨⟨k+1,j',u,rfl,rfl,?_,iS E (by simpa using hb) hz⟩,by simp only[aE];omega⟩;rw[aB];simp only[Eh,bP E,Xam,Xav,Xbg];rfl
 . have I:=geB hk I
   subst I;rw[Xag]at T hz;have hR:l.any (fun s=> !dV s)=false:=xT fun s hs=>by rw[hz s hs];rfl
   have af:((Eh l).es.length:Int)=l.length:=by simp[Eh]
   simp only[go_sem,F,T,af];refine⟨fun ρ H=>∃(k:Nat),k<=l.length/\ρ 4=.os j/\ρ 33=.os j/\ρ 34=int l.length/\ρ 35=int k/\H j=some (Eh l)/\∀s∈l.take k,VO s=false,fun ρ _=>l.length-aT (ρ 35),
     ⟨0,Xab _,by simp only[go_sem,F],by simp only[go_sem],by simp only[go_sem],by simp only[go_sem];rfl,T,by simp⟩,?_⟩
   clear F T J O M;rintro ρ H ⟨k,hk,F,Z,ab,aa,T,ac⟩;simp only[go_sem,F,Z,ab,aa];refine aA (fun u=>?_) (fun I=>?_)
   . have u:=ltB u
     obtain⟨s,E⟩:=aN u;have b1:=inB u;have ah:(Eh l).es.getD k []=Ea s:=aF E;have b2:0<=(k:Int)/\(k:Int)<((Eh l).es.length:Nat):=by simp only[Eh,Xaa];exact b1
     simp only[go_sem,F,Z,ab,aa,T,b2,ah];have ad:k<(Eh l).es.length:=by simp only[Eh,Xaa];exact u
     refine⟨rfl,⟨ad,Xaf 2⟩,?_⟩;refine aK fun i hi=>?_
     simp only[go_sem,F,Z,ab,aa];have ae:j≠i:=aQ T hi;refine aJ (aB _ _ _) (by simp[Ld]) ?_;generalize hG:aI (aI _ i _) i _=HG;have Ri:HG i=some (⟨208,2,[Ea s]⟩:Row):=by rw[<-hG,aB];rfl
     have ag:HG j=some (Eh l):=by rw[<-hG,aD _ _ _ _ ae,aD _ _ _ _ ae];exact T
     clear hG hi T;simp only[go_sem,F,Z,ab,aa,Ri];have hd:decide (((dP s).size:Int)>4096)=VO s:=by unfold VO;rw[decide_eq_decide];omega
     rw[hd];refine aA (fun hb=>?_) (fun hb=>?_)
     . simp only[go_sem]
       have e:GR l=4:=by unfold GR;rw[if_neg (by rw[hR];simp),if_pos (BP E hb)]
       rw[show zL l=[]from if_neg (by rw[e];decide),e];exact .refl _
     . simp only[go_sem,F,Z,ab,aa,aP (show k<=4611686018427387904 by omega)]
       exact⟨⟨k+1,u,rfl,ag,iS E hb ac⟩,by simp only[aE];omega⟩
   . have I:=geB hk I
     subst I;rw[Xag]at ac;simp only[go_sem,F];have e:GR l=0:=by unfold GR;rw[if_neg (by rw[hR];simp),if_neg (by rw[xT ac];simp)]
     rw[show zL l=l.map Ea from if_pos e,e];exact .tup _ _ (.cons _ _ _ _ (.row _ _ _ T (ConvE.refl _)) (ConvL.refl _))
end Go.Proofs.YtohmomanmikphaaGreatDoor.Nu
end
section
namespace Go.Proofs.YtohmomanmikphaaGreatDoor.Nu
open Go.Proofs.Tryz(prog)
open Go.Aw Go.Aw.D Go.Proofs Ty Go.Nu
theorem CE:∀{l r:List UInt8},l.all isD=true->r.all isD=true->l.length=r.length->Lib.compareBytes l r=fR (fU l) (fU r)
 | [],[],_,_,_=>by rw[nZ rfl];rfl
 | [],_::_,_,_,h=>by simp at h
 | _::_,[],_,_,h=>by simp at h
 | a::l,b::r,hl,hr,h=>by
   simp only[List.all_cons,Xap]at hl hr;simp only[Xad,Nat.add_right_cancel_iff]at h;have ih:=CE hl.2 hr.2 h;have I:fU (a::l)=(a.toNat-48)*10^l.length+fU l:=by
     have:=sX [a] l;simpa[fU]using this
   have Z:fU (b::r)=(b.toNat-48)*10^r.length+fU r:=by
     have:=sX [b] r;simpa[fU]using this
   have h1:=Em hl.2;have h2:=Em hr.2;have da:=kS.1 hl.1;have db:=kS.1 hr.1;rw[Lib.compareBytes,I,Z,<-h]at *;have E:a<b↔a.toNat<b.toNat:=UInt8.lt_iff_toNat_lt;have F:b<a↔b.toNat<a.toNat:=UInt8.lt_iff_toNat_lt;split
   . rename_i u
     rw[E]at u;have:(a.toNat-48+1)*10^l.length<=(b.toNat-48)*10^l.length:=Xcq _ (by omega);rw[Nat.add_mul]at this;rw[gV (by omega)]
   . split
     . rename_i u
       rw[F]at u;have:(b.toNat-48+1)*10^l.length<=(a.toNat-48)*10^l.length:=Xcq _ (by omega);rw[Nat.add_mul]at this;rw[gT (by omega)]
     . rename_i T O
       rw[E]at T;rw[F]at O;have:a.toNat=b.toNat:=by omega
       rw[ih,this];generalize (b.toNat-48)*10^l.length=p;unfold fR;have J:(((p+fU l:Nat):Int)<((p+fU r:Nat):Int))↔((fU l:Nat):Int)<((fU r:Nat):Int):=by omega
       have M:(((p+fU r:Nat):Int)<((p+fU l:Nat):Int))↔((fU r:Nat):Int)<((fU l:Nat):Int):=by omega
       simp only[J,M]
theorem EG(m n:Nat):PC prog 171 [str (dec m),str (dec n)] (int (fR m n)):=by
 have I:=iA m;have F:=iA n;have u:∀{p q:Nat},(Lib.decDigits p).length<(Lib.decDigits q).length->p<q:=fun {p q} h=>by
   have h1:=(jE (n:=p) (k:=(Lib.decDigits p).length) (gL p)).1 (Xaf _);rcases Xar p q with E|E
   . exact E
   . have:=(jE (n:=q) (k:=(Lib.decDigits p).length) (gL p)).2 (by omega)
     omega
 refine pcd Tryz.func171 ?_;unfold Tryz.f171;simp only[gdS];simp only[go_sem];refine aA (fun h=>?_) (fun h=>?_)
 . have h:(dec m).size≠(dec n).size:=neN h
   simp only[go_sem];refine aA (fun E=>?_) (fun E=>?_)
   . have E:=ltB E
     simp only[go_sem];have:=u (p:=m) (q:=n) (by omega);exact cI (by rw[gV (by omega)])
   . have E:¬(dec m).size<(dec n).size:=by have:=of_decide_eq_false E;omega
     simp only[go_sem];have:=u (p:=n) (q:=m) (by omega);exact cI (by rw[gT (by omega)])
 . have h:(dec m).size=(dec n).size:=eqN h
   simp only[go_sem];refine PC.use (PM (dec m) (dec n)) ?_;simp only[go_sem];refine cI ?_;rw[gO,gO,CE (sG m) (sG n) (by omega),nE,nE]
theorem BT(a b:ByteArray)(E:dC a=true)(u:dC b=true):PC prog 171 [str a,str b] (int (fR (dU a) (dU b))):=by
 have:=EG (dU a) (dU b)
 rwa [iB E,iB u]at this
theorem Cz{s:ByteArray}(h:dV s=true):dC (dP s)=true:=by
 unfold dV at h;simp only[Xap]at h;exact h.1
theorem QR(a b:ByteArray)(ha:a.size<=1048576)(hb:b.size<=1048576):PC prog 102 [str a,str b] (int (NZ a b)):=by
 refine pcd Tryz.func102 ?_;unfold Tryz.f102;simp only[gdS];simp only[go_sem];refine PC.use (Bn a ha) ?_;simp only[go_sem];refine PC.use (Bn b hb) ?_;simp only[go_sem];refine aA (fun h=>?_) (fun h=>?_)
 . simp only[go_sem]
   refine cI ?_;unfold NZ;rw[if_neg];rintro⟨h1,u⟩;rw[h1,u]at h;cases h
 have J:dV a=true/\dV b=true:=by simpa using h
 have M:=Cz J.1;have O:=Cz J.2;have F:∀{s:ByteArray},dV s=true->eJ s=true->0<dU (dP s):=fun {s} h1 u=>by
   have E:=h1;unfold dV at E;simp only[u,Xaz,Xap,Xbp,kW]at E;rcases Xbx (dU (dP s))with h0|h0
   . have:=iB E.1
     rw[h0]at this;exact absurd this.symm E.2
   . exact h0
 have T:NZ a b=fR (eU a) (eU b):=if_pos J;rw[T];unfold eU;simp only[go_sem];refine aA (fun u=>?_) (fun u=>?_)
 . have u:eJ a=true/\eJ b=true:=by simpa using u
   simp only[go_sem];refine PC.use (BT _ _ O M) ?_;simp only[go_sem];refine cI ?_;rw[if_pos u.1,if_pos u.2];unfold fR;have Z:(((dU (dP b):Nat):Int)<((dU (dP a):Nat):Int))↔(-((dU (dP a):Nat):Int)< -((dU (dP b):Nat):Int)):=by omega
   have c2:(((dU (dP a):Nat):Int)<((dU (dP b):Nat):Int))↔(-((dU (dP b):Nat):Int)< -((dU (dP a):Nat):Int)):=by omega
   simp only[Z,c2]
 . simp only[go_sem]
   refine aA (fun E=>?_) (fun E=>?_)
   . have I:eJ b=false:=by rw[E]at u;simpa using u
     have:=F J.1 E;simp only[go_sem];refine cI ?_;rw[if_pos E,if_neg (by rw[I];simp),gV (by omega)]
   . simp only[go_sem]
     refine aA (fun I=>?_) (fun I=>?_)
     . have:=F J.2 I
       simp only[go_sem];refine cI ?_;rw[if_neg (by rw[E];simp),if_pos I,gT (by omega)]
     . simp only[go_sem]
       refine PC.use (BT _ _ M O) ?_;simp only[go_sem];refine cI ?_;rw[if_neg (by rw[E];simp),if_neg (by rw[I];simp)]
def jT(m:Bool)(n:Nat):List AV:=[boo m,str (dec n)]
theorem Cr(m:Bool)(n:Nat):(jT m n).length=2:=(rfl)
theorem ZI(m:Bool)(n:Nat):(jT m n).getD 0 .any=boo m:=(rfl)
theorem ZT(m:Bool)(n:Nat):(jT m n).getD 1 .any=str (dec n):=(rfl)
theorem TL(m:Bool)(n:Nat):(jT m n).take 2=jT m n:=(rfl)
attribute [go_sem] Cr ZI ZT TL
theorem MD{m n:Nat}(E:m<cK)(u:n<cK):QU (dec m) (dec n)=szN (m+n):=by unfold QU;rw[if_pos (uR E u),bU,bU]
theorem N8{m n:Nat}(E:m<cK)(u:n<cK)(h:n<=m):OW (dec m) (dec n)=szN (m-n):=by unfold OW;rw[if_pos (uR E u),bU,bU,if_neg (by omega)]
theorem dB{m:Nat}(u:m<cK):(dec m).size<=1048576:=by have:=(gI m).2 u;omega
theorem afK(a b:Bool)(m n:Nat)(hm:m<cK)(hn:n<cK):PC prog 223 [.agg (jT a m),.agg (jT b n)] (.tup [str (szZ (sg a m+sg b n)).1,int (szZ (sg a m+sg b n)).2]):=by
 refine pcb (fun t=>t == 2||t == 3) Tryz.func223 ?_;unfold Tryz.f223;simp only[gdS];simp only[go_sem];refine aK fun i hi=>?_
 simp only[go_sem];refine aK fun j hj=>?_
 have F:=aB bY i (some ⟨208,2,[jT a m]⟩);have O:i≠j:=aQ F hj;have E:=aB (aI bY i (some ⟨208,2,[jT a m]⟩)) j (some ⟨208,2,[jT b n]⟩);have u:(aI (aI bY i (some ⟨208,2,[jT a m]⟩)) j (some ⟨208,2,[jT b n]⟩)) i=some ⟨208,2,[jT a m]⟩:=by rw[aD _ _ _ _ O];exact F
 generalize aI (aI bY i _) j _=H1 at *;clear F;simp only[go_sem,u,E];refine aA (fun h=>?_) (fun h=>?_)
 . have J:a=b:=by simpa using h
   subst J;simp only[go_sem,u,E];refine PC.use (Xa (dec m) (dec n) (dB hm) (dB hn)) ?_;rw[MD hm hn];simp only[go_sem,u,E];refine PC.use (E5 a (m+n)) ?_;simp only[go_sem];have e:sg a (m+n)=sg a m+sg a n:=by unfold sg;split <;> omega
   rw[e];exact .refl _
 have J:b= !a:=by cases a <;> cases b <;> simp_all
 subst J;simp only[go_sem,u,E];refine PC.use (EG m n) ?_;simp only[go_sem,u,E];refine bH (fun Z H'=>∃(a' b':Bool) (p q:Nat),p<cK/\q<cK/\q<=p/\sg a' (p-q)=sg a m+sg (!a) n/\Z 2=.op i 0 0/\Z 3=.op j 0 0/\H' i=some (⟨208,2,[jT a' p]⟩:Row)/\H' j=some (⟨208,2,[jT b' q]⟩:Row)) ?_ fun K hK=>aA (fun I=>?_) (fun I=>?_)
 rotate_left
 . have ac : m < n := by
     rcases Xar m n with h|h
     . exact h
     . exfalso
       have I:=of_decide_eq_true I;unfold fR at I;rw[if_neg (by omega)]at I;split at I <;> omega
   simp only[go_sem,u,E];refine aJ u (by simp[Cr]) ?_;generalize M:aI H1 i _=HP;have F:HP i=some (⟨208,2,[jT (!a) n]⟩:Row):=by rw[<-M,aB];rfl
   have T:HP j=some (⟨208,2,[jT (!a) n]⟩:Row):=by rw[<-M,aD _ _ _ _ (Ne.symm O)];exact E
   clear M;simp only[go_sem,F,T];refine aJ T (by simp[Cr]) ?_;generalize M:aI HP j _=HQ;have S3:HQ j=some (⟨208,2,[jT a m]⟩:Row):=by rw[<-M,aB];rfl
   have S2:HQ i=some (⟨208,2,[jT (!a) n]⟩:Row):=by rw[<-M,aD _ _ _ _ O];exact F
   clear M;simp only[go_sem];refine hK _ _ ⟨!a,a,n,m,hn,hm,by omega,?_,by simp only[go_sem],by simp only[go_sem],S2,S3⟩;unfold sg;cases a <;> simp <;> omega
 . have ab : n <= m := by
     rcases Xar m n with h|h
     . exact absurd (by rw[gV (by omega)];decide) (of_decide_eq_false I)
     . exact h
   simp only[go_sem];refine hK _ _ ⟨a,!a,m,n,hm,hn,ab,?_,by simp only[go_sem],by simp only[go_sem],u,E⟩;unfold sg;cases a <;> simp <;> omega
 clear u E;rintro ρ H ⟨a',b',p,q,hp,hq,aa,hv,h2,h3,F,E⟩;simp only[go_sem,h2,h3,F,E];refine PC.use (XP (dec p) (dec q) (dB hp) (dB hq)) ?_;rw[N8 hp hq aa];simp only[go_sem,h2,h3,F,E];refine PC.use (E5 a' (p-q)) ?_;simp only[go_sem];rw[hv];exact .refl _
theorem KU(a b:ByteArray):GR [a,b]=iO a b:=by
 unfold GR iO VO;simp only[List.any_cons,List.any_nil,Bool.or_false]
theorem Yn(n:Int):Ea (zed n)=jT (decide (n<0)) n.natAbs:=by
 unfold Ea jT;rw[oO,iD]
theorem CK(n:Int):sg (decide (n<0)) n.natAbs=n:=by
 unfold sg;by_cases h:n<0
 . simp[h];omega
 . simp[h];omega
theorem JX{m n:Int}(h:iO (zed m) (zed n)=0):zL [zed m,zed n]=[jT (decide (m<0)) m.natAbs,jT (decide (n<0)) n.natAbs]:=by
 unfold zL;rw[KU,if_pos h];simp only[Xav,Xbg,Yn]
theorem Be(a b:ByteArray)(E:a.size<=1048576)(u:b.size<=1048576):PC prog 166 [.sl [[str a],[str b]]] (.tup [.sl (zL [a,b]),int (iO a b)]):=by
 have:=ZY [a,b] (by simp) (by simp[E,u])
 rwa [KU]at this
theorem agO(a b:ByteArray)(I:a.size<=1048576)(u:b.size<=1048576):PC prog 222 [str a,str b] (.tup [str (GZ a b).1,int (GZ a b).2]):=by
 refine pcd Tryz.func222 ?_;unfold Tryz.f222;simp only[gdS];simp only[go_sem];refine PC.use (Be a b I u) ?_;simp only[go_sem];refine aA (fun h=>?_) (fun h=>?_)
 . have h:iO a b≠0:=by simpa using h
   simp only[go_sem];rw[show GZ a b=(emp,iO a b)from if_neg h];exact .refl _
 have h:iO a b=0:=by simpa using h
 have e:GZ a b=szZ (eU a+eU b):=if_pos h;rw[e];obtain⟨m,n,rfl,rfl,F,E⟩:=mZ h;rw[bX,bX,JX h];simp only[go_sem];refine dJ (by rfl) (by kernel_rfl) ?_;simp only[go_sem,Xad,List.length_nil]
 repeat (refine⟨by first|decide|omega,?_⟩)
 refine⟨_,(afK _ _ _ _ F E).q rfl,?_⟩;simp only[go_sem];rw[CK,CK];exact .refl _
theorem ahN(a b:ByteArray)(J:a.size<=1048576)(E:b.size<=1048576):PC prog 164 [str a,str b] (.tup [str (Ue a b).1,int (Ue a b).2]):=by
 refine pcd Tryz.func164 ?_;unfold Tryz.f164;simp only[gdS];simp only[go_sem];refine PC.use (Be a b J E) ?_;simp only[go_sem];refine aA (fun h=>?_) (fun h=>?_)
 . have h:iO a b≠0:=by simpa using h
   simp only[go_sem];rw[show Ue a b=(emp,iO a b)from if_neg h];exact .refl _
 have h:iO a b=0:=by simpa using h
 have e:Ue a b=szZ (eU a-eU b):=if_pos h;rw[e];obtain⟨m,n,rfl,rfl,I,F⟩:=mZ h;rw[bX,bX,JX h];simp only[go_sem];refine dJ (by rfl) (by kernel_rfl) ?_;simp only[go_sem,Xad,List.length_nil]
 repeat (refine⟨by first|decide|omega,?_⟩)
 have u:sg (!decide (n<0)) n.natAbs= -n:=by
   unfold sg;by_cases h:n<0
   . simp[h];omega
   . simp[h];omega
 refine⟨_,(afK _ (!decide (n<0)) _ _ I F).q rfl,?_⟩;simp only[go_sem];rw[CK,u,Int.sub_eq_add_neg];exact .refl _
theorem XK{m n:Nat}(E:m<cK)(u:n<cK):Pf (dec m) (dec n)=szN (m*n):=by unfold Pf;rw[if_pos (uR E u),bU,bU]
theorem ahK(a b:ByteArray)(M:a.size<=1048576)(J:b.size<=1048576):PC prog 259 [str a,str b] (.tup [str (tH a b).1,int (tH a b).2]):=by
 refine pcd Tryz.func259 ?_;unfold Tryz.f259;simp only[gdS];simp only[go_sem];refine PC.use (Be a b M J) ?_;simp only[go_sem];refine aA (fun h=>?_) (fun h=>?_)
 . have h:iO a b≠0:=by simpa using h
   simp only[go_sem];rw[show tH a b=(emp,iO a b)from if_neg h];exact .refl _
 have h:iO a b=0:=by simpa using h
 have e:tH a b=szZ (eU a*eU b):=if_pos h;rw[e];obtain⟨m,n,rfl,rfl,F,E⟩:=mZ h;rw[bX,bX,JX h];simp only[go_sem];refine dJ (by rfl) (by kernel_rfl) ?_;simp only[go_sem,Xad,List.length_nil]
 repeat (refine⟨by first|decide|omega,?_⟩)
 refine⟨_,(ajI (dec m.natAbs) (dec n.natAbs) (dB F) (dB E)).q rfl,?_⟩;rw[XK F E];simp only[go_sem];refine dJ (by rfl) (by kernel_rfl) ?_;simp only[go_sem,Xad,List.length_nil]
 repeat (refine⟨by first|decide|omega,?_⟩)
 refine⟨_,(E5 _ (m.natAbs*n.natAbs)).q rfl,?_⟩;simp only[go_sem];have I:sg (!(decide (m<0) == decide (n<0))) (m.natAbs*n.natAbs)=m*n:=by
   unfold sg;rw[Int.natCast_mul];by_cases h1:m<0 <;> by_cases u:n<0
   . simp only[h1,u,decide_true,beq_self_eq_true,Xcg,Xbb,if_false]
     rw[Xcd (by omega),Xcd (by omega),Int.neg_mul_neg]
   . simp only[h1,u,decide_true,decide_false]
     rw[if_pos (show(!(true == false))=true from rfl),Xcd (by omega),Xce (by omega),Int.neg_mul,Int.neg_neg]
   . simp only[h1,u,decide_true,decide_false]
     rw[if_pos (show(!(false == true))=true from rfl),Xcd (a:=n) (by omega),Xce (by omega),Int.mul_neg,Int.neg_neg]
   . simp only[h1,u,decide_false,beq_self_eq_true,Xcg,Xbb,if_false]
     rw[Xce (by omega),Xce (by omega)]
 rw[I];exact .refl _
theorem AH{P:Program}{C:lB}{PC:FuncId->List AV->aH->AV->Prop}{mt:Nat->Bool}{ops:Array Oper}{K:Env->aH->Prop}{m:Nat}{ρ:Env}{H:aH}(J:Env->aH->Prop)(h1:∀ρ H,J ρ H->K ρ H)
 (u:∀K':Env->aH->Prop,(∀ρ H,J ρ H->K' ρ H)->tA P C PC mt ops K' m ρ H):tA P C PC mt ops K m ρ H:=u K h1
abbrev CF(A:List AV):Row:=⟨208,2,[A]⟩
abbrev zN:Row:=CF [.v (.bool false),.v (.string ByteArray.empty)]
theorem BY{A:List AV}(h:A.length=2):(⟨208,2,[List.take 2 A++List.drop (List.take 2 A).length [AV.v (.bool false),AV.v (.string ByteArray.empty)]]⟩:Row)=CF A:=by
 rw[Xan (by omega),h];simp
theorem D4{m n:Int}(I:n≠0)(F:decide (m<0)≠decide (n<0))(O:m.natAbs%n.natAbs≠0):
   m.fdiv n= -((m.natAbs/n.natAbs+1:Nat):Int)/\m.fmod n=sg (decide (n<0)) (n.natAbs-m.natAbs%n.natAbs):=by
 have e:=Nat.mod_add_div m.natAbs n.natAbs;have M:=Xbm m.natAbs (show 0<n.natAbs by omega);generalize m.natAbs/n.natAbs=q at *;generalize m.natAbs%n.natAbs=r at *;have E:(r:Int)+(n.natAbs:Int)*(q:Int)=(m.natAbs:Int):=by rw[<-Int.natCast_mul,<-Int.natCast_add,e]
 unfold sg;rcases Int.lt_or_gt_of_ne I with h|h
 . have J:¬m<0:=fun u=>F (by simp[h,u])
   rw[Xcd (a:=n) (by omega),Xce (a:=m) (by omega)]at E;refine(Int.fdiv_fmod_unique' h).2 ⟨?_,?_,?_⟩
   . rw[if_pos (by simpa using h)]
     have:(n* -((q+1:Nat):Int))= -n*q-n:=by grind
     rw[this];omega
   . rw[if_pos (by simpa using h)];omega
   . rw[if_pos (by simpa using h)];omega
 . have J : m < 0 := by
     rcases Xbq m 0 with u|u
     . exact u
     . exact absurd (by simp;omega) F
   rw[Xce (a:=n) (by omega),Xcd (a:=m) (by omega)]at E;refine(Int.fdiv_fmod_unique h).2 ⟨?_,?_,?_⟩
   . rw[if_neg (by simp;omega)]
     have:(n* -((q+1:Nat):Int))= -(n*q)-n:=by grind
     rw[this];omega
   . rw[if_neg (by simp;omega)];omega
   . rw[if_neg (by simp;omega)];omega
theorem Ia{m n:Int}(J:n≠0)(h0:decide (m<0)=decide (n<0)\/m.natAbs%n.natAbs=0):
   m.fdiv n=sg (!(decide (m<0) == decide (n<0))) (m.natAbs/n.natAbs)/\m.fmod n=sg (decide (n<0)) (m.natAbs%n.natAbs):=by
 have e:=Nat.mod_add_div m.natAbs n.natAbs;have M:=Xbm m.natAbs (show 0<n.natAbs by omega);generalize m.natAbs/n.natAbs=q at *;generalize m.natAbs%n.natAbs=r at *;have F:(r:Int)+(n.natAbs:Int)*(q:Int)=(m.natAbs:Int):=by rw[<-Int.natCast_mul,<-Int.natCast_add,e]
 unfold sg;rcases Int.lt_or_gt_of_ne J with h|h
 . rw[Xcd (a:=n) (by omega)]at F
   refine(Int.fdiv_fmod_unique' h).2 ?_;by_cases E:m<0
   . rw[Xcd (a:=m) (by omega)]at F
     simp only[h,E,decide_true,beq_self_eq_true,Xcg,Xbb,if_false,if_true];have:n*(q:Int)= -(-n*q):=by grind
     exact⟨by rw[this];omega,by omega,by omega⟩
   . rw[Xce (a:=m) (by omega)]at F
     have I:r=0:=by
       rcases h0 with h0|h0
       . simp[h,E]at h0
       . exact h0
     simp only[h,E,decide_true,decide_false,show(!(false == true))=true from rfl,if_true];have:n* -(q:Int)= -n*q:=by grind
     exact⟨by rw[this];omega,by omega,by omega⟩
 . rw[Xce (a:=n) (by omega)]at F
   refine(Int.fdiv_fmod_unique h).2 ?_;have u:¬n<0:=by omega
   by_cases E:m<0
   . rw[Xcd (a:=m) (by omega)]at F
     have I:r=0:=by
       rcases h0 with h0|h0
       . simp[u,E]at h0
       . exact h0
     simp only[u,E,decide_true,decide_false,show(!(true == false))=true from rfl,if_true,Xbb,if_false];have:n* -(q:Int)= -(n*q):=by grind
     exact⟨by rw[this];omega,by omega,by omega⟩
   . rw[Xce (a:=m) (by omega)]at F
     simp only[u,E,decide_false,beq_self_eq_true,Xcg,Xbb,if_false];exact⟨by omega,by omega,by omega⟩
theorem KP{m n:Nat}(E:m<cK)(u:n<cK)(h:n≠0):By (dec m) (dec n)=(dec (m/n),dec (m%n),0):=by unfold By;rw[if_pos (uR E u),bU,bU,if_neg h]
theorem Ko(a b:ByteArray)(ha:a.size<=1048576)(E:b.size<=1048576):PC prog 101 [str a,str b] (.tup [str (rX a b).1,str (rX a b).2.1,int (rX a b).2.2]):=by
 refine pcd Tryz.func101 ?_;unfold Tryz.f101;simp only[gdS];simp only[go_sem];refine PC.use (Be a b ha E) ?_;simp only[go_sem];refine aA (fun h=>?_) (fun h=>?_)
 . have h:iO a b≠0:=by simpa using h
   simp only[go_sem];rw[show rX a b=(emp,emp,iO a b)from if_neg h];exact .refl _
 have h:iO a b=0:=by simpa using h
 obtain⟨m,n,rfl,rfl,Z,hn⟩:=mZ h;have e:rX (zed m) (zed n)=if n=0 then(emp,emp,10)else(zed (m.fdiv n),zed (m.fmod n),0):=by unfold rX;rw[if_pos h,bX,bX]
 rw[e,JX h];simp only[go_sem];obtain⟨A,hA⟩:∃A,jT (decide (m<0)) m.natAbs=A:=⟨_,rfl⟩;obtain⟨B,hB⟩:∃B,jT (decide (n<0)) n.natAbs=B:=⟨_,rfl⟩;have aa:A.length=2:=by rw[<-hA];rfl
 have T:B.length=2:=by rw[<-hB];rfl
 refine AH (fun M H'=>∃i j,M 9=.op i 0 0/\M 10=.op j 0 0/\H' i=some (CF A)/\H' j=some (CF B)) ?_ fun K hK=>?_
 rotate_left
 . refine vA [] (.q 0 (.q 1 (.q 2 (.q 3 (.q 4 (.q 5 (.a2 6 (.a1 7 (.a1 8 (.a1 9 .nil))) 7 (.a1 6 (.a1 8 (.a1 9 .nil)))))))))) (by simp) (by kernel_rfl) fun Hp Hr _ hq _ _=>?_
   simp only[go_sem,Xad,List.length_nil,hA,hB]
   repeat (refine⟨by first|decide|omega,?_⟩)
   refine mE ?_ ?_
   . simp only[go_sem]
     refine aK fun i hi=>?_
     simp only[go_sem];refine aK fun j hj=>?_
     have R:=aB Hr i (some (zN));have O:=aQ R hj;have I:=jV (r':=zN) R hj;have F:=aB (aI Hr i (some (zN))) j (some (zN));simp only[go_sem];refine aJ (r:=zN) I (by simp[aa]) ?_;simp only[go_sem];refine aJ (r:=zN) (by rw[aD _ _ _ _ O.symm];exact F) (by simp[T]) ?_;simp only[go_sem];refine fI fun _ Hm _ Z=>hK _ _ ⟨i,j,by simp only[go_sem],by simp only[go_sem],?_,?_⟩
     . rw[Z i (by simp),aD _ _ _ _ O,aB];exact congrArg some (BY aa)
     . rw[Z j (by simp),aB];exact congrArg some (BY T)
   . simp only[go_sem]
     refine aK fun j hj=>?_
     simp only[go_sem];refine aK fun i hi=>?_
     have R:=aB Hr j (some (zN));have O:=(aQ R hi).symm;have F:=jV (r':=zN) R hi;have I:=aB (aI Hr j (some (zN))) i (some (zN));simp only[go_sem];refine aJ (r:=zN) I (by simp[aa]) ?_;simp only[go_sem];refine aJ (r:=zN) (by rw[aD _ _ _ _ O.symm];exact F) (by simp[T]) ?_;simp only[go_sem];refine fI fun _ Hm _ Z=>hK _ _ ⟨i,j,by simp only[go_sem],by simp only[go_sem],?_,?_⟩
     . rw[Z i (by simp),aD _ _ _ _ O,aB];exact congrArg some (BY aa)
     . rw[Z j (by simp),aB];exact congrArg some (BY T)
 rintro ρ H ⟨i,j,J,u,I,F⟩;subst hA hB;simp only[go_sem,J,u,I,F,lK];refine aA (fun ad=>?_) (fun ad=>?_)
 . have h0 : n = 0 := by
     have:=pB.1 (jQ.1 ad);omega
   simp only[go_sem];rw[if_pos h0];exact .refl _
 have h0:n≠0:=fun e=>by
   subst e;exact kW.1 ad rfl
 have ai:n.natAbs≠0:=by omega
 rw[if_neg h0];simp only[go_sem,J,u,I,F];refine PC.use (ahD (dec m.natAbs) (dec n.natAbs) (dB Z) (dB hn)) ?_;rw[KP Z hn ai];simp only[go_sem,J,u,I,F];refine aA (fun E=>by cases E) (fun _=>?_);simp only[go_sem,J,u,I,F,lK];have ak:=Nat.mod_add_div m.natAbs n.natAbs;have aj:=Xbm m.natAbs (show 0<n.natAbs by omega);refine bH (fun M H'=>∃q r:Nat,M 9=.op i 0 0/\M 10=.op j 0 0/\H' i=some (CF (jT (decide (m<0)) m.natAbs))/\H' j=some (CF (jT (decide (n<0)) n.natAbs))/\M 11=str (dec q)/\M 12=str (dec r)/\q<cK/\r<cK/\sg (!(decide (m<0) == decide (n<0))) q=m.fdiv n/\sg (decide (n<0)) r=m.fmod n) ?_ fun K hK=>aA (fun E=>?_) (fun E=>?_)
 rotate_left
 . have E : decide (m < 0) ≠ decide (n < 0) /\ m.natAbs % n.natAbs ≠ 0 := by
     simp only[Xap,Xbp,beq_eq_false_iff_ne,ne_eq,kW]at E;exact⟨E.1,fun e=>E.2 (by rw[e])⟩
   obtain⟨f1,f2⟩:=D4 h0 E.1 E.2;have ac:m.natAbs/n.natAbs+1<cK:=by
     have h2:2<=n.natAbs:=by omega
     have h3:2*(m.natAbs/n.natAbs)<=n.natAbs*(m.natAbs/n.natAbs):=Xcq _ h2;omega
   have ab:m.natAbs/n.natAbs<cK:=by omega
   have ah:(1:Nat)<cK:=Xcr (Nat.le_add_left 1 _) ac;have af:m.natAbs%n.natAbs<cK:=by omega
   generalize hQ:m.natAbs/n.natAbs=q at *;generalize hR:m.natAbs%n.natAbs=r at *;simp only[go_sem,J,u];rw[B7];refine PC.use (Xa (dec q) (dec 1) (dB ab) (dB ah)) ?_;rw[MD ab ah,wK ac];simp only[go_sem,J,u,I,F];refine aA (fun E=>by cases E) (fun _=>?_);simp only[go_sem,J,u,I,F];refine PC.use (XP (dec n.natAbs) (dec r) (dB hn) (dB af)) ?_;rw[N8 hn af (by omega),wK (show n.natAbs-r<cK by omega)];simp only[go_sem,J,u,I,F];refine aA (fun E=>by cases E) (fun _=>?_);simp only[go_sem,J,u];refine hK _ _ ⟨q+1,n.natAbs-r,by simp only[go_sem,J],by simp only[go_sem,u],I,F,by simp only[go_sem],by simp only[go_sem],ac,by omega,?_,f2.symm⟩;rw[f1];unfold sg;rw[if_pos (by simpa using E.1)]
 . have E : decide (m < 0) = decide (n < 0) \/ m.natAbs % n.natAbs = 0 := by
     by_cases h1:decide (m<0)=decide (n<0)
     . exact .inl h1
     . refine .inr ?_
       have h2:(!(decide (m<0) == decide (n<0)))=true:=by simpa using h1
       rw[h2,Xaz,Xbl]at E;exact pB.1 (jQ.1 E)
   obtain⟨f1,f2⟩:=Ia h0 E;have ab:m.natAbs/n.natAbs<cK:=Xcr (Nat.div_le_self _ _) Z;simp only[go_sem,J,u];exact hK _ _ ⟨_,_,by simp only[go_sem,J],by simp only[go_sem,u],I,F,by simp only[go_sem],by simp only[go_sem],ab,by omega,f1.symm,f2.symm⟩
 clear J u I F;rintro ρ H ⟨q,r,J,u,I,F,ag,ae,hq,hr,f1,f2⟩;simp only[go_sem];refine dJ (by rfl) (by kernel_rfl) ?_;simp only[go_sem,J,u,ag,ae,I,F];refine⟨_,(Qq _ q (dB hq)).q rfl,?_⟩;simp only[go_sem,J,u,ag,ae,I,F];refine⟨_,(Qq _ r (dB hr)).q rfl,?_⟩;simp only[go_sem,f1,f2];exact .refl _
end Go.Proofs.YtohmomanmikphaaGreatDoor.Nu
end
section
namespace Go.Proofs.YtohmomanmikphaaGreatDoor.Nu
open Go.Proofs.Tryz(prog)
open Go.Aw Go.Aw.D Go.Proofs Ty Go.Nu
open Go.RowKit (Below)
theorem CP:∀l:List UInt8,Lib.indexByte l 47=if l.any (· == dM)=true then((l.takeWhile (· != dM)).length:Int)else -1
 | []=>rfl
 | c::l=>by
   have ih:=CP l;unfold Lib.indexByte;by_cases h:c=dM
   . subst h;rfl
   . have h1:(c == (47:UInt8))=false:=by simpa[dM]using h
     have u:(c == dM)=false:=by simpa using h
     have E:(c != dM)=true:=by simpa using h
     rw[h1,ih,List.any_cons,u,List.takeWhile_cons,E];simp only[Xbb,if_false,Bool.false_or,if_true];split
     . rw[if_neg (by simp)]
       simp
     . rfl
theorem Eu{α:Type}(p:α->Bool):∀l:List α,l.take (l.takeWhile p).length=l.takeWhile p
 | []=>rfl
 | a::l=>by
   rw[List.takeWhile_cons];split
   . rw[Xad,List.take_succ_cons,Eu p l]
   . rfl
theorem SA{α:Type}(p:α->Bool):∀l:List α,l.drop ((l.takeWhile p).length+1)=(l.dropWhile p).drop 1
 | []=>rfl
 | a::l=>by
   rw[List.takeWhile_cons,List.dropWhile_cons];split
   . rw[Xad,List.drop_succ_cons,SA p l]
   . rfl
theorem apJ{l:List UInt8}(h:l.any (· == dM)=true):(l.takeWhile (· != dM)).length<l.length:=by
 rcases Xar (l.takeWhile (· != dM)).length l.length with h1|h1
 . exact h1
 . exfalso
   have E:=Eu (· != dM) l;rw[Xan h1]at E;obtain⟨c,F,u⟩:=Xbk.1 h;rw[E]at F;have:=CQ F;simp at this u;exact this u
def Yx(s:ByteArray):Int:=if jJ s=true then(((bl s).takeWhile (· != dM)).length:Int)else -1
theorem XD(s:ByteArray):PC prog 233 [str s,str ⟨#[47]⟩] (int (Yx s)):=by
 refine PC.lib (a:=[.string s,.string ⟨#[47]⟩]) (v:=.int .i64 (Yx s)) (fun S w=>rfl) fun w _=>(Tryz.stringslite_Index_one s 47 w).mono fun e w' ⟨E,u⟩=>?_
 rw[u];exact⟨E.trans (by rw[show s.data.toList=bl s from rfl,CP];rfl),Below.refl _ _⟩
theorem LQ(s:ByteArray):PC prog 109 [str s,str ⟨#[47]⟩] (boo (jJ s)):=by
 refine PC.lib (a:=[.string s,.string ⟨#[47]⟩]) (v:=.bool (jJ s)) (fun S w=>rfl) fun w _=>(Tryz.strings_Contains_one s 47 w).mono fun e w' ⟨E,u⟩=>?_
 rw[u];refine⟨E.trans ?_,Below.refl _ _⟩;rw[show s.data.toList=bl s from rfl,CP];unfold jJ;cases(bl s).any (· == dM) <;> simp
def JP(s:ByteArray):ByteArray:=⟨(((bl s).dropWhile (· != dM)).drop 1).toArray⟩
theorem Wb(s:ByteArray)(h:s.size<=1048576):PC prog 183 [str s,str ⟨#[47]⟩] (.tup (if jJ s=true then[str (fD s),str (JP s),boo true]else[str s,str emp,boo false])):=by
 refine pcd Tryz.func183 ?_;unfold Tryz.f183;simp only[gdS];simp only[go_sem];refine PC.use (XD s) ?_;simp only[go_sem];have M:=cF s;refine aA (fun u=>?_) (fun u=>?_)
 . have E : jJ s = true := by
     have u:=of_decide_eq_true u;unfold Yx at u;split at u
     . assumption
     . omega
   have J:=apJ E;rw[if_pos E,show Yx s=(((bl s).takeWhile (· != dM)).length:Int)from if_pos E];simp only[go_sem];refine dJ (by rfl) (by kernel_rfl) ?_;simp only[go_sem];have O:s.extract 0 ((bl s).takeWhile (· != dM)).length=fD s:=jC (by rw[eQ,Xbj,Eu];exact(iK _).symm);have I:s.extract (((bl s).takeWhile (· != dM)).length+1) s.size=JP s:=jC (by rw[eQ,<-M,Xag,SA];exact(iK _).symm);refine⟨⟨by omega,by omega⟩,?_⟩;have F:IntKind.i64.wrap ((((bl s).takeWhile (· != dM)).length:Int)+((#[47]:Array UInt8).size:Nat))=((((bl s).takeWhile (· != dM)).length+1:Nat):Int):=aP (by omega);simp only[F,Xbc,O,I];refine⟨⟨by omega,by omega⟩,?_⟩;exact .refl _
 . have E : ¬ jJ s = true := fun E => by
     have u:=of_decide_eq_false u;unfold Yx at u;rw[if_pos E]at u;omega
   rw[if_neg E];simp only[go_sem];exact .refl _
theorem MS{s:ByteArray}(h:jJ s=false):fD s=s:=by
 refine jC ?_;unfold fD;rw[iK];refine wN fun c u=>?_
 unfold jJ at h;rw[List.any_eq_false]at h;have:=h c u;simpa using this
theorem aqN(s:ByteArray)(h:s.size<=1048576):PC prog 113 [str s,str ⟨#[47]⟩] (.tup (if jJ s=true then[str (fD s),str (JP s),boo true]else[str s,str emp,boo false])):=by
 by_cases u:jJ s=true
 . have:=Wb s h
   rw[if_pos u]at this |-;refine pcd Tryz.func113 ?_;unfold Tryz.f113;simp only[gdS];simp only[go_sem];refine PC.use this ?_;simp only[go_sem];exact .refl _
 . have:=Wb s h
   rw[if_neg u]at this |-;refine pcd Tryz.func113 ?_;unfold Tryz.f113;simp only[gdS];simp only[go_sem];refine PC.use this ?_;simp only[go_sem];exact .refl _
theorem Ey(s:ByteArray)(h:s.size<=1048576):PC prog 64 [str s] (.tup [str (fD s),str (eZ s)]):=by
 have E:=aqN s h;by_cases u:jJ s=true
 . rw[if_pos u]at E
   refine pcd Tryz.func64 ?_;unfold Tryz.f64;simp only[gdS];simp only[go_sem];refine PC.use E ?_;simp only[go_sem];refine aA (fun F=>by cases F) (fun _=>?_);simp only[go_sem];rw[show eZ s=JP s from if_pos u];exact .refl _
 . rw[if_neg u]at E
   refine pcd Tryz.func64 ?_;unfold Tryz.f64;simp only[gdS];simp only[go_sem];refine PC.use E ?_;simp only[go_sem];refine aA (fun _=>?_) (fun F=>by cases F);simp only[go_sem];rw[show eZ s=dec 1 from if_neg u,MS (by simpa using u),<-B7];exact .refl _
theorem Nb(s:ByteArray):PC prog 108 [str s] (int (dP s).size):=by
 refine pcd Tryz.func108 ?_;unfold Tryz.f108;simp only[gdS];simp only[go_sem];refine PC.use (xX s) ?_;simp only[go_sem];exact .refl _
theorem CU(s:ByteArray):(fD s).size<=s.size:=by
 rw[<-cF,<-cF,show bl (fD s)=(bl s).takeWhile (· != dM)from iK _,<-Eu];simp;omega
theorem Hi(s:ByteArray):(eZ s).size<=max s.size 1:=by
 unfold eZ;split
 . rw[<-cF,<-cF,iK,Xbd]
   have:((bl s).dropWhile (· != dM)).length<=(bl s).length:=(List.dropWhile_suffix _).length_le;omega
 . rw[<-B7];exact Nat.le_max_right _ _
theorem Ql:dC (dec 1)=true:=kB 1
theorem Fy{s:ByteArray}(h:dC s=true):dP s=s:=by rw[<-iB h,Mh]
theorem HI{s:ByteArray}(h:jJ s=false):eZ s=dec 1:=if_neg (by rw[h];simp)
theorem EU{s:ByteArray}(u:(!dV (fD s)||decide (((dP (fD s)).size:Int)>4096)||decide (((dP (eZ s)).size:Int)>4096))=true):bQ s=false:=by
 unfold bQ;rw[Bool.eq_false_iff];simp only[ne_eq,Xap,decide_eq_true_eq];rintro⟨⟨⟨⟨h1,E⟩,I⟩,F⟩,_⟩;rw[h1,Fy E]at u;simp only[Xcg,Bool.false_or,Xbt,decide_eq_true_eq]at u;omega
theorem yD{s:ByteArray}(F:(!dV (fD s)||decide (((dP (fD s)).size:Int)>4096)||decide (((dP (eZ s)).size:Int)>4096))=false)(I:dC (eZ s)=true):
   (dV (fD s)&&dC (eZ s)&&decide ((dP (fD s)).size<=4096)&&decide ((eZ s).size<=4096))=true/\dV (fD s)=true/\(dP (fD s)).size<=4096/\(eZ s).size<=4096:=by
 simp only[Xak,Xbl,decide_eq_false_iff_not]at F;rw[Fy I]at F;obtain⟨⟨h1,u⟩,E⟩:=F;have u:(dP (fD s)).size<=4096:=by omega
 have E:(eZ s).size<=4096:=by omega
 refine⟨?_,h1,u,E⟩;rw[h1,I];simp[u,E]
theorem xY(s:ByteArray)(h:s.size<=1048576):PC prog 63 [str s] (boo (bQ s)):=by
 have hn:=CU s;have hd:=Hi s;have h1:(1:Nat)<=1048576:=by omega
 have ab:=BJ (fD s);have aa:=BJ (eZ s);refine pcd Tryz.func63 ?_;unfold Tryz.f63;simp only[gdS];simp only[go_sem];refine PC.use (Ey s h) ?_;simp only[go_sem];refine PC.use (V8 (fD s) (by omega)) ?_;simp only[go_sem];refine⟨_,fun _=>(Nb (fD s)).q rfl,?_⟩;simp only[go_sem];refine⟨_,fun _=>(Nb (eZ s)).q rfl,?_⟩;simp only[go_sem];refine aA (fun F=>?_) (fun F=>?_)
 . simp only[go_sem]
   exact cB (EU F).symm
 simp only[go_sem];refine PC.use (LQ s) ?_;simp only[go_sem];refine aA (fun I=>?_) (fun I=>?_)
 . simp only[go_sem]
   refine cB ?_;have h0:jJ s=false:=by simpa using I
   have E:dC (eZ s)=true:=by rw[HI h0];exact Ql
   unfold bQ;rw[(yD F E).1,h0];rfl
 have h0:jJ s=true:=by simpa using I
 simp only[go_sem];refine PC.use (BV (eZ s) (by omega)) ?_;simp only[go_sem,lK,Cp];refine aA (fun u=>?_) (fun u=>?_)
 . simp only[go_sem]
   refine cB ?_;unfold bQ;rw[h0];simp only[Xbt,Xbp]at u;rcases u with((u|u)|u)|u <;> simp[u]
 simp only[Xak,Xbl]at u;obtain⟨⟨⟨E,J⟩,T⟩,O⟩:=u;obtain⟨f1,f2,f3,M⟩:=yD F E;simp only[go_sem];refine PC.use (xX (fD s)) ?_;simp only[go_sem];refine PC.use (Wx (dP (fD s)) (eZ s) (by omega) (by omega)) ?_;simp only[go_sem,Cp];refine cB ?_;have Z:=Cz f2;have v0:dU (eZ s)≠0:=fun e=>kW.1 J (by rw[<-iB E,e])
 have v1:dU (eZ s)<cK:=(vX E).1 M;have e:xC (dP (fD s)) (eZ s)=(dec (Nat.gcd (dU (dP (fD s))) (dU (eZ s))),0):=by
   unfold xC;rw[if_pos (Eo Z E f3 M),wK (Xcr (Nat.gcd_le_right _ (by omega)) v1)]
 have ev:(eU (fD s)).natAbs=dU (dP (fD s)):=by unfold eU;split <;> omega
 rw[e];unfold bQ;rw[f1,h0,J,T,O,ev];simp only[beq_self_eq_true,Xaz,Xcg,Bool.not_false,Bool.false_or];rw[Xax,jQ,pB,Xaw]
theorem Ca(n:Int)(h0: -9223372036854775808<=n)(h1:n<=9223372036854775807):PC prog 99 [int n] (str (zed n)):=by
 refine pcd Tryz.func99 ?_;unfold Tryz.f99;simp only[gdS];simp only[go_sem];refine PC.use (akW n h0 h1) ?_;simp only[go_sem];exact .refl _
theorem ZO(s:ByteArray)(h:s.size<=1048576):PC prog 33 [str s] (int (yQ s)):=by
 have J:=CU s;refine pcd Tryz.func33 ?_;unfold Tryz.f33;simp only[gdS];simp only[go_sem];refine PC.use (xY s h) ?_;simp only[go_sem];refine aA (fun u=>?_) (fun u=>?_)
 . simp only[go_sem]
   exact cI (by unfold yQ;rw[if_neg (by simpa using u)])
 . have E:bQ s=true:=by simpa using u
   simp only[go_sem];refine PC.use (Ey s h) ?_;simp only[go_sem];refine PC.use (Zk (fD s) (by omega)) ?_;simp only[go_sem];refine cI ?_;obtain⟨x,rfl,I,F,_⟩:=dZ E;unfold yQ xG;rw[if_pos E,F,if_pos (mK _),bX,eH]
def JE(a b:ByteArray):List AV:=if(bQ a&&bQ b)=true then[str (fD a),str (eZ a),str (fD b),str (eZ b),int 0]else[str emp,str emp,str emp,str emp,int 3]
theorem O0(a b:ByteArray)(E:a.size<=1048576)(F:b.size<=1048576):PC prog 100 [str a,str b] (.tup (JE a b)):=by
 refine pcd Tryz.func100 ?_;unfold Tryz.f100;simp only[gdS];simp only[go_sem];refine PC.use (xY a E) ?_;simp only[go_sem];refine⟨_,fun _=>(xY b F).q rfl,?_⟩;simp only[go_sem];refine aA (fun u=>?_) (fun u=>?_)
 . simp only[go_sem]
   rw[show JE a b=[str emp,str emp,str emp,str emp,int 3]from if_neg (by rw[Bool.not_eq_true,<-Xbp,Bool.not_and];exact u)];exact .refl _
 . simp only[go_sem]
   refine PC.use (Ey a E) ?_;simp only[go_sem];refine PC.use (Ey b F) ?_;simp only[go_sem];rw[show JE a b=_ from if_pos (by rw[<-Xbl,Bool.not_and];exact u)];exact .refl _
theorem YX(n:Int)(d:Nat)(J:d≠0)(M:n.natAbs<cK)(u:d<cK):PC prog 221 [str (zed n),str (dec d)] (.tup [str (jM (mkRat n d)),int 0]):=by
 have I:=Iv (n:=n) J u;have T:=RG (n:=n) J;have O:∀{m:Int},m.natAbs<cK->(zed m).size<=1048576:=fun {m} hm=>by
   have:=(oK m).2 hm;unfold dP at this;split at this
   . rw[<-cF,iK,Xbd]at this
     rw[<-cF];omega
   . omega
 have F:=BA J M u;have Z:rX (zed n) (dec (Nat.gcd n.natAbs d))=(zed (mkRat n d).num,zed (n.fmod (Nat.gcd n.natAbs d:Nat)),0):=by
   unfold rX;rw[<-cN,if_pos (nM M (by rw[Xay];exact I)),bX,bX,if_neg (by omega),Q7 J]
 have ed:rX (dec d) (dec (Nat.gcd n.natAbs d))=(dec (mkRat n d).den,zed ((d:Int).fmod (Nat.gcd n.natAbs d:Nat)),0):=by
   unfold rX;rw[<-cN,<-cN,if_pos (nM (by rw[Xay];exact u) (by rw[Xay];exact I)),bX,bX,if_neg (by omega),Sx J,cN]
 refine pcd Tryz.func221 ?_;unfold Tryz.f221;simp only[gdS];simp only[go_sem];refine PC.use (xX (zed n)) ?_;rw[iD];simp only[go_sem];refine PC.use (Wx (dec n.natAbs) (dec d) (dB M) (dB u)) ?_;rw[show xC (dec n.natAbs) (dec d)=(dec (Nat.gcd n.natAbs d),0)by unfold xC;rw[if_pos (uR M u),bU,bU,wK I]];simp only[go_sem];refine aA (fun E=>by cases E) (fun _=>?_);simp only[go_sem];refine PC.use (Ko (zed n) (dec (Nat.gcd n.natAbs d)) (O M) (dB I)) ?_;rw[Z];simp only[go_sem];refine aA (fun E=>by cases E) (fun _=>?_);simp only[go_sem];refine PC.use (Ko (dec d) (dec (Nat.gcd n.natAbs d)) (dB u) (dB I)) ?_;rw[ed];simp only[go_sem];refine aA (fun E=>by cases E) (fun _=>?_);simp only[go_sem,Cp];generalize mkRat n d=x at *;refine aA (fun E=>?_) (fun E=>?_)
 . have h1:x.den=1:=pB.1 (jQ.1 E)
   simp only[go_sem];rw[show jM x=zed x.num from if_pos h1];exact .refl _
 . have h1:x.den≠1:=fun e=>kW.1 E (by rw[e])
   simp only[go_sem];have z1:=O F.1;have z2:=dB F.2;have z3:(zed x.num++slB).size=(zed x.num).size+1:=by rw[ByteArray.size_append];rfl
   refine⟨by show((zed x.num).size+(1:Nat):Int)<=9223372036854775807;omega,?_⟩;refine⟨by show(((zed x.num).size+1+(dec x.den).size:Nat):Int)<=9223372036854775807;omega,?_⟩;rw[show jM x=zed x.num++slB++dec x.den from if_neg h1];exact .refl _
end Go.Proofs.YtohmomanmikphaaGreatDoor.Nu
end
section
namespace Go.Proofs.YtohmomanmikphaaGreatDoor.Nu
open Go.Proofs.Tryz(prog)
open Go.Aw Go.Aw.D Go.Proofs Ty Go.Nu
abbrev Pr:=ByteArray×ByteArray
def Ak(p:Pr):List AV:=[str p.1,str p.2]
theorem G9(p:Pr):(Ak p).length=2:=(rfl)
theorem aeU(p:Pr):(Ak p).getD 0 .any=str p.1:=(rfl)
theorem aeT(p:Pr):(Ak p).getD 1 .any=str p.2:=(rfl)
theorem T5(p:Pr):(Ak p).take 2=Ak p:=(rfl)
attribute [go_sem] G9 aeU aeT T5
def prA(p:Pr):List AV:=[str (tH p.1 p.2).1]
def prE:List Pr->Int
 | []=>0
 | p::l=>if(tH p.1 p.2).2≠0 then(tH p.1 p.2).2 else prE l
theorem Lm:∀{l:List Pr},(∀p∈l,(tH p.1 p.2).2=0)->prE l=0
 | [],_=>rfl
 | p::l,h=>by unfold prE;rw[if_neg (by simp[h p (by simp)])];exact Lm fun q u=>h q (by simp[u])
theorem XM:∀{l:List Pr} {k:Nat} {p:Pr},l[k]?=some p->(∀q∈l.take k,(tH q.1 q.2).2=0)->(tH p.1 p.2).2≠0->prE l=(tH p.1 p.2).2
 | [],k,p,h,_,_=>by simp at h
 | a::l,0,p,h,_,h2=>by
   simp at h;subst h;unfold prE;rw[if_pos h2]
 | a::l,k+1,p,h,h1,h2=>by
   unfold prE;rw[if_neg (by simp[h1 a (by simp)])];exact XM (k:=k) (by simpa using h) (fun q u=>h1 q (by simp[u])) h2
def ZU(l:List (List AV)):Row:=⟨9,1,l⟩
theorem Fd(l:List Pr)(hl:l.length<=1048576)(hs:∀p∈l,p.1.size<=1048576/\p.2.size<=1048576):PC prog 220 [.sl (l.map Ak)] (.tup [.sl (if prE l=0 then l.map prA else[]),int (prE l)]):=by
 refine pcb (fun t=>t == 6||t == 11) Tryz.func220 ?_;unfold Tryz.f220;simp only[gdS];simp only[go_sem];refine⟨⟨⟨by omega,by omega⟩,by omega⟩,?_⟩;refine aK fun j hj=>?_
 simp only[go_sem];refine⟨fun ρ H=>∃(k j:Nat),k<=l.length/\ρ 12=.sl (l.map Ak)/\ρ 13=int l.length/\ρ 4=.os j/\ρ 14=int k/\H j=some (ZU ((l.take k).map prA))/\∀p∈l.take k,(tH p.1 p.2).2=0,fun ρ _=>l.length-aT (ρ 14),
   ⟨0,j,Xab _,by simp only[go_sem],by simp only[go_sem,Xaa],by simp only[go_sem],by simp only[go_sem];rfl,aB _ _ _,by simp⟩,?_⟩
 clear hj j;rintro ρ H ⟨k,j,hk,E,F,M,u,Rj,hz⟩;simp only[go_sem,E,F,M,u];refine aA (fun I=>?_) (fun T=>?_)
 . have I:=ltB I
   obtain⟨p,J⟩:=aN I;have b1:=inB I;have ab:=hs p (Xae J);simp only[go_sem,E,F,M,u,aF J,b1];refine aK fun i hi=>?_
   have aa:j≠i:=aQ Rj hi;simp only[go_sem,E,F,M,u];refine aJ (aB _ _ _) (by simp[G9]) ?_;generalize hG:aI (aI _ i _) i _=HG;have Ri:HG i=some (⟨247,2,[Ak p]⟩:Row):=by rw[<-hG,aB];rfl
   have ac:HG j=some (ZU ((l.take k).map prA)):=by rw[<-hG,aD _ _ _ _ aa,aD _ _ _ _ aa];exact Rj
   clear hG hi Rj;simp only[go_sem,E,F,M,u,Ri]
   repeat (refine⟨by first|decide|omega,?_⟩)
   refine PC.use (ahK p.1 p.2 ab.1 ab.2) ?_;simp only[go_sem,E,F,M,u];refine aA (fun O=>?_) (fun O=>?_)
   . have O:(tH p.1 p.2).2≠0:=by simpa using O
     simp only[go_sem];have e:prE l=(tH p.1 p.2).2:=XM J hz O;rw[e,if_neg O];exact .refl _
   . have O:(tH p.1 p.2).2=0:=by simpa using O
     simp only[go_sem,E,F,M,u];refine aX ac ⟨rfl,rfl⟩ ⟨rfl,trivial⟩ (by simp only[ZU,Xaa,Xal,Xad,List.length_nil];omega) (fun j' ad=>?_);simp only[go_sem,E,F,M,u,aP (show k<=4611686018427387904 by omega)];refine⟨⟨k+1,j',I,rfl,rfl,?_,?_⟩,by simp only[aE];omega⟩
     . rw[aB]
       simp only[ZU,bP J,Xam,Xav,Xbg];rfl
     . intro q Z
       rw[bP J]at Z;rcases Xbe.1 Z with Z|Z
       . exact hz q Z
       . rw[Xaq.1 Z];exact O
 . have T:=geB hk T
   subst T;rw[Xag]at Rj hz;simp only[go_sem,M,Rj];have e:prE l=0:=Lm hz;rw[if_pos e,e];exact .tup _ _ (.cons _ _ _ _ (.row _ _ _ Rj (ConvE.refl _)) (ConvL.refl _))
theorem pN{m n:Int}(E:m.natAbs<cK)(u:n.natAbs<cK):tH (zed m) (zed n)=szZ (m*n):=by unfold tH;rw[if_pos (nM E u),bX,bX]
theorem Oc{m n:Int}(E:m.natAbs<cK)(u:n.natAbs<cK):GZ (zed m) (zed n)=szZ (m+n):=by unfold GZ;rw[if_pos (nM E u),bX,bX]
theorem Yq{m n:Int}(E:m.natAbs<cK)(u:n.natAbs<cK):Ue (zed m) (zed n)=szZ (m-n):=by unfold Ue;rw[if_pos (nM E u),bX,bX]
theorem tS{n:Int}(h:lF n=false):szZ n=(zed n,0):=if_pos (fW.1 h)
theorem pF{n:Int}(h:lF n=true):szZ n=(emp,4):=if_neg (fun u=>by rw[fW.2 u]at h;cases h)
theorem cT{m:Int}(u:m.natAbs<cK):(zed m).size<=1048576:=by
 have:=(oK m).2 u;unfold dP at this;split at this
 . rw[<-cF,iK,Xbd]at this
   rw[<-cF];omega
 . omega
theorem Dw{a b c d:Int}(I:a.natAbs<cK)(F:b.natAbs<cK)(E:c.natAbs<cK)(J:d.natAbs<cK):
   PC prog 220 [.sl [[str (zed a),str (zed b)],[str (zed c),str (zed d)]]] (if(lF (a*b)||lF (c*d))=true then .tup [.sl [],int 4]else .tup [.sl [[str (zed (a*b))],[str (zed (c*d))]],int 0]):=by
 have:=Fd [(zed a,zed b),(zed c,zed d)] (by simp) (by simp[cT,I,F,E,J]);simp only[prE,pN I F,pN E J,Xav,Xbg,prA,Ak]at this;cases h1:lF (a*b)with
 | true=>rw[pF h1]at this;simpa using this
 | false=>
   rw[tS h1]at this;cases u:lF (c*d)with
   | true=>rw[pF u]at this;simpa using this
   | false=>rw[tS u]at this;simpa using this
theorem N5{a b:Int}(u:a.natAbs<cK)(E:b.natAbs<cK):
   PC prog 220 [.sl [[str (zed a),str (zed b)]]] (if lF (a*b)=true then .tup [.sl [],int 4]else .tup [.sl [[str (zed (a*b))]],int 0]):=by
 have:=Fd [(zed a,zed b)] (by simp) (by simp[cT,u,E]);simp only[prE,pN u E,Xav,Xbg,prA,Ak]at this;cases h1:lF (a*b)with
 | true=>rw[pF h1]at this;simpa using this
 | false=>rw[tS h1]at this;simpa using this
def fv(g:FuncId):AV:=.v (.func (.func g) #[] #[])
def SO(op:Int->Int->Int)(x y:Rat):ByteArray×Int:=
 if(lF (x.num*y.den)||lF (y.num*x.den)||lF (op (x.num*y.den) (y.num*x.den))||lF (x.den*y.den))=true then(emp,4)else(jM (mkRat (op (x.num*y.den) (y.num*x.den)) (x.den*y.den)),0)
def Dz(op:Int->Int->Int)(a b:ByteArray):ByteArray×Int:=if(bQ a&&bQ b)=true then SO op (gJ a) (gJ b)else(emp,3)
theorem He(g:FuncId)(op:Int->Int->Int)(ab:aC prog g=true)(hg:∀m n:Int,m.natAbs<cK->n.natAbs<cK->PC prog g [str (zed m),str (zed n)] (.tup [str (szZ (op m n)).1,int (szZ (op m n)).2]))
   (a b:ByteArray) (ha:a.size<=1048576) (E:b.size<=1048576):PC prog 163 [str a,str b,fv g] (.tup [str (Dz op a b).1,int (Dz op a b).2]):=by
 have u:=O0 a b ha E;by_cases M:(bQ a&&bQ b)=true
 rotate_left
 . rw[show JE a b=_ from if_neg M]at u
   rw[show Dz op a b=(emp,3)from if_neg M];unfold fv;refine pcd Tryz.func163 ?_;unfold Tryz.f163;simp only[gdS];simp only[go_sem];refine PC.use u ?_;simp only[go_sem];refine aA (fun _=>?_) (fun E=>by cases E);simp only[go_sem];exact .refl _
 rw[show JE a b=_ from if_pos M]at u;rw[show Dz op a b=_ from if_pos M];simp only[Xap]at M;obtain⟨x,rfl,hx,e1,e2⟩:=dZ M.1;obtain⟨y,rfl,hy,e3,e4⟩:=dZ M.2;rw[e1,e2,e3,e4]at u;rw[eH,eH];have xd:((x.den:Int)).natAbs<cK:=by rw[Xay];exact hx.2
 have yd:((y.den:Int)).natAbs<cK:=by rw[Xay];exact hy.2
 have Z:=Dw hx.1 yd hy.1 xd;have T:=N5 xd yd;rw[cN,cN]at Z T;unfold fv;refine pcd Tryz.func163 ?_;unfold Tryz.f163;simp only[gdS];simp only[go_sem];refine PC.use u ?_;simp only[go_sem];refine aA (fun E=>by cases E) (fun _=>?_);simp only[go_sem];unfold SO;cases I:(lF (x.num*y.den)||lF (y.num*x.den))with
 | true=>
   rw[I,if_pos rfl]at Z;refine PC.use Z ?_;simp only[go_sem];refine aA (fun _=>?_) (fun E=>by cases E);exact .refl _
 | false=>
   rw[I]at Z;simp only[Xbb,if_false]at Z;refine PC.use Z ?_;simp only[go_sem];refine aA (fun E=>by cases E) (fun _=>?_);simp only[go_sem];have F:=I;simp only[Xak]at F;have aa:=hg _ _ (fW.1 F.1) (fW.1 F.2);refine dJ (by rfl) (by kernel_rfl) ?_;simp only[go_sem,Xad,List.length_nil]
   repeat (refine⟨by first|decide|omega,?_⟩)
   refine⟨_,aa.q rfl,?_⟩;simp only[go_sem];generalize hN:op (x.num*y.den) (y.num*x.den)=N;cases O:lF N with
   | true=>
     rw[pF O];refine aA (fun _=>?_) (fun E=>by cases E);simp only[go_sem,I,Bool.false_or,Bool.true_or,if_true];exact .refl _
   | false=>
     rw[tS O];refine aA (fun E=>by cases E) (fun _=>?_);simp only[go_sem];cases J:lF ((x.den:Int)*y.den)with
     | true=>
       rw[J,if_pos rfl]at T;refine PC.use T ?_;simp only[go_sem];refine aA (fun _=>?_) (fun E=>by cases E);simp only[go_sem,Bool.or_true,if_true];exact .refl _
     | false=>
       rw[J]at T;simp only[Xbb,if_false]at T;refine PC.use T ?_;simp only[go_sem];refine aA (fun E=>by cases E) (fun _=>?_);simp only[go_sem,Xad,List.length_nil]
       repeat (refine⟨by first|decide|omega,?_⟩)
       have hD:x.den*y.den<cK:=by rw[<-yY];exact fW.1 J
       have:=YX N (x.den*y.den) (Cq x y) (fW.1 O) hD;rw[<-cN,Int.natCast_mul]at this;refine PC.use this ?_;simp only[go_sem];exact .refl _
theorem TD(a b:ByteArray):Dz (·+·) a b=rO a b:=by
 unfold Dz rO SO CY;simp only[JY]
theorem Tn(a b:ByteArray):Dz (·-·) a b=zT a b:=by
 unfold Dz zT SO CY;simp only[JY,Rat.neg_num,Rat.neg_den,Int.neg_mul,<-Int.sub_eq_add_neg];have:∀n:Int,lF (-n)=lF n:=fun n=>by unfold lF;rw[Int.natAbs_neg]
 simp only[this]
theorem xD(a b:ByteArray)(F:a.size<=1048576)(I:b.size<=1048576):PC prog 162 [str a,str b] (.tup [str (rO a b).1,int (rO a b).2]):=by
 have:=He 222 (·+·) (by kernel_rfl) (fun m n E u=>by rw[<-Oc E u];exact agO _ _ (cT E) (cT u)) a b F I;rw[TD]at this;unfold fv at this;refine pcd Tryz.func162 ?_;unfold Tryz.f162;simp only[gdS];simp only[go_sem];refine PC.use this ?_;simp only[go_sem];exact .refl _
theorem yG(a b:ByteArray)(F:a.size<=1048576)(I:b.size<=1048576):PC prog 98 [str a,str b] (.tup [str (zT a b).1,int (zT a b).2]):=by
 have:=He 164 (·-·) (by kernel_rfl) (fun m n E u=>by rw[<-Yq E u];exact ahN _ _ (cT E) (cT u)) a b F I;rw[Tn]at this;unfold fv at this;refine pcd Tryz.func98 ?_;unfold Tryz.f98;simp only[gdS];simp only[go_sem];refine PC.use this ?_;simp only[go_sem];exact .refl _
theorem agV(a b:ByteArray)(ha:a.size<=1048576)(F:b.size<=1048576):PC prog 161 [str a,str b] (.tup [str (rW a b).1,int (rW a b).2]):=by
 have u:=O0 a b ha F;by_cases I:(bQ a&&bQ b)=true
 rotate_left
 . rw[show JE a b=_ from if_neg I]at u
   rw[show rW a b=(emp,3)from if_neg I];refine pcd Tryz.func161 ?_;unfold Tryz.f161;simp only[gdS];simp only[go_sem];refine PC.use u ?_;simp only[go_sem];refine aA (fun _=>?_) (fun F=>by cases F);simp only[go_sem];exact .refl _
 rw[show JE a b=_ from if_pos I]at u;rw[show rW a b=_ from if_pos I];simp only[Xap]at I;obtain⟨x,rfl,M,e1,e2⟩:=dZ I.1;obtain⟨y,rfl,O,e3,Z⟩:=dZ I.2;rw[e1,e2,e3,Z]at u;rw[eH,eH];have T:((x.den:Int)).natAbs<cK:=by rw[Xay];exact M.2
 have yd:((y.den:Int)).natAbs<cK:=by rw[Xay];exact O.2
 have J:=Dw M.1 O.1 T yd;rw[cN,cN]at J;refine pcd Tryz.func161 ?_;unfold Tryz.f161;simp only[gdS];simp only[go_sem];refine PC.use u ?_;simp only[go_sem];refine aA (fun F=>by cases F) (fun _=>?_);simp only[go_sem];unfold Dr;cases E:(lF (x.num*y.num)||lF ((x.den:Int)*y.den))with
 | true=>
   rw[E,if_pos rfl]at J;refine PC.use J ?_;simp only[go_sem];refine aA (fun _=>?_) (fun F=>by cases F);exact .refl _
 | false=>
   rw[E]at J;simp only[Xbb,if_false]at J;refine PC.use J ?_;simp only[go_sem];refine aA (fun F=>by cases F) (fun _=>?_);simp only[go_sem];simp only[Xak]at E;have hD:x.den*y.den<cK:=by rw[<-yY];exact fW.1 E.2
   have:=YX (x.num*y.num) (x.den*y.den) (Cq x y) (fW.1 E.1) hD;rw[<-cN,Int.natCast_mul]at this;refine dJ (by rfl) (by kernel_rfl) ?_;simp only[go_sem,Xad,List.length_nil]
   repeat (refine⟨by first|decide|omega,?_⟩)
   refine⟨_,this.q rfl,?_⟩;simp only[go_sem];rw[<-Qr];exact .refl _
end Go.Proofs.YtohmomanmikphaaGreatDoor.Nu
end
section
namespace Go.Nu
open Go Go.Lib
theorem cT{m:Int}(u:m.natAbs<cK):(zed m).size<=4097:=by
 have:=(oK m).2 u;unfold dP at this;split at this
 . rw[<-cF,iK,List.length_drop]at this
   rw[<-cF];omega
 . omega
theorem Cj{x:Rat}(h:pW x):(jM x).size<=8194:=by
 have h1:=cT h.1;have u:=(gI x.den).2 h.2;unfold jM;split
 . omega
 . rw[ByteArray.size_append,ByteArray.size_append]
   have:slB.size=1:=rfl;omega
theorem fB{s:ByteArray}(h:bQ s=true):s.size<=8194:=by
 obtain⟨x,rfl,u,_⟩:=dZ h;exact Cj u
theorem AD{a b:ByteArray}(h:(rO a b).2=0):bQ (rO a b).1=true:=by
 unfold rO at h |-;split at h
 . rename_i u
   rw[if_pos u];obtain⟨e,E⟩:=Au h;rw[e];exact mT E
 . cases h
theorem Fx{a b:ByteArray}(h:(rW a b).2=0):bQ (rW a b).1=true:=by
 unfold rW at h |-;split at h
 . rename_i u
   rw[if_pos u];obtain⟨e,E⟩:=ML h;rw[e];exact mT E
 . cases h
def oR:List (Int×ByteArray)->ByteArray->ByteArray×Int
 | [],t=>(t,0)
 | p :: l, t => if (rW (zed p.1) p.2).2 ≠ 0 then (emp, (rW (zed p.1) p.2).2) else
     if(rO t (rW (zed p.1) p.2).1).2≠0 then(emp,(rO t (rW (zed p.1) p.2).1).2)else oR l (rO t (rW (zed p.1) p.2).1).1
def jD(ns:List Int)(xs:List ByteArray):ByteArray×Int:=
 if ns.length≠xs.length then(emp,2)else if xs.any (fun x=> !bQ x)=true then(emp,3)else oR (ns.zip xs) (dec 0)
theorem ET:bQ (dec 0)=true:=by
 have:dec 0=jM 0:=(cN 0).symm.trans (if_pos (show(0:Rat).den=1 from rfl)).symm;rw[this];exact mT ⟨adC,Jm (k:=1) (by decide) (by decide)⟩
end Go.Nu
end
section
namespace Go.Proofs.YtohmomanmikphaaGreatDoor.Nu
open Go.Proofs.Tryz(prog)
open Go.Aw Go.Aw.D Go.Proofs Ty Go.Nu
theorem B6{p q:Int}(F:0<q):(p.fdiv q).natAbs<=p.natAbs:=by
 obtain⟨e,h0,h1⟩:=nW (p:=p) F;generalize p.fdiv q=d at *;generalize p.fmod q=m at *;rcases Xbq d 0 with E|E
 . have u:(d+1)*q<=(d+1)*1:=Int.mul_le_mul_of_nonpos_left (by omega) (by omega)
   rw[Int.add_mul]at u;omega
 . have u:d*1<=d*q:=Int.mul_le_mul_of_nonneg_left (by omega) E
   omega
theorem A4{p q:Int}(u:p.natAbs<cK)(E:q.natAbs<cK)(h:0<q):rX (zed p) (zed q)=(zed (p.fdiv q),zed (p.fmod q),0):=by
 unfold rX;rw[if_pos (nM u E),bX,bX,if_neg (by omega)]
theorem Mk(i j:Int):NZ (zed i) (zed j)=fR i j:=by unfold NZ;rw[if_pos ⟨mK _,mK _⟩,bX,bX]
theorem EP(i j:Int):fR i j= -1\/fR i j=0\/fR i j=1:=by
 unfold fR;split
 . exact .inl rfl
 . split
   . exact .inr (.inr rfl)
   . exact .inr (.inl rfl)
def agE:AV->Nat
 | .v (.string s)=>(eU s).natAbs
 | _=>0
theorem Bt(n:Int):agE (str (zed n))=n.natAbs:=by show(eU (zed n)).natAbs=_;rw[bX]
theorem tW(n:Int):(bl (zed n) == [48])=decide (n=0):=by
 rw[lK,<-show zed ((0:Nat):Int)=dec 0 from cN 0,Xax,jQ,Vy,decide_eq_true_iff];exact Iff.rfl
theorem afJ{a b:Int}(E:a=1\/a= -1)(u:b= -1\/b=0\/b=1):IntKind.i64.wrap (a*b)=a*b:=by
 rcases E with rfl|rfl <;> rcases u with rfl|rfl|rfl <;> rfl
theorem F6{a:Int}(u:a=1\/a= -1):IntKind.i64.wrap (0-a)= -a:=by rcases u with rfl|rfl <;> rfl
theorem wM(a b:ByteArray)(ha:a.size<=1048576)(hb:b.size<=1048576):PC prog 59 [str a,str b] (int (zU a b)):=by
 have E:=O0 a b ha hb;by_cases hr:(bQ a&&bQ b)=true
 rotate_left
 . rw[show JE a b=_ from if_neg hr]at E
   rw[show zU a b=0 from if_neg hr];refine pcd Tryz.func59 ?_;unfold Tryz.f59;simp only[gdS];simp only[go_sem];refine PC.use E ?_;simp only[go_sem];refine aA (fun _=>?_) (fun hb=>by cases hb);simp only[go_sem];exact .refl _
 rw[show JE a b=_ from if_pos hr]at E;rw[show zU a b=_ from if_pos hr];simp only[Xap]at hr;obtain⟨x,rfl,hx,e1,e2⟩:=dZ hr.1;obtain⟨y,rfl,hy,e3,e4⟩:=dZ hr.2;rw[e1,e2,e3,e4]at E;rw[eH,eH];have xd:((x.den:Int)).natAbs<cK:=by rw[Xay];exact hx.2
 have yd:((y.den:Int)).natAbs<cK:=by rw[Xay];exact hy.2
 have x0:=x.den_nz;have y0:=y.den_nz;rw[<-cN,<-cN]at E;refine pcd Tryz.func59 ?_;unfold Tryz.f59;simp only[gdS];simp only[go_sem];refine PC.use E ?_;simp only[go_sem];refine aA (fun hb=>by cases hb) (fun _=>?_);simp only[go_sem];refine⟨fun ρ _=>∃(p q r s g:Int),ρ 5=str (zed p)/\ρ 6=str (zed q)/\ρ 7=str (zed r)/\ρ 8=str (zed s)/\ρ 10=int g/\(g=1\/g= -1)/\0<q/\0<s/\p.natAbs<cK/\q.natAbs<cK/\r.natAbs<cK/\s.natAbs<cK/\Ju x y=g*FY p q r s,fun ρ _=>agE (ρ 6),
   ⟨x.num,x.den,y.num,y.den,1,by simp only[go_sem],by simp only[go_sem],by simp only[go_sem],by simp only[go_sem],by simp only[go_sem],.inl rfl,by omega,by omega,hx.1,xd,hy.1,yd,by rw[Int.one_mul,QM]⟩,?_⟩
 rintro ρ H ⟨p,q,r,s,g,M,O,Z,T,u,hg,hq,hs,bp,bq,br,bs,F⟩;simp only[go_sem,M,O,Z,T,u];refine PC.use (Ko (zed p) (zed q) (cT bp) (cT bq)) ?_;rw[A4 bp bq hq];simp only[go_sem,M,O,Z,T,u];refine PC.use (Ko (zed r) (zed s) (cT br) (cT bs)) ?_;rw[A4 br bs hs];simp only[go_sem,M,O,Z,T,u];have d1:=B6 (p:=p) hq;have d2:=B6 (p:=r) hs;refine PC.use (QR (zed (p.fdiv q)) (zed (r.fdiv s)) (cT (by omega)) (cT (by omega))) ?_;rw[Mk];simp only[go_sem,M,O,Z,T,u];obtain⟨_,m0,m1⟩:=nW (p:=p) hq;obtain⟨_,n0,n1⟩:=nW (p:=r) hs;have c3:=EP (p.fdiv q) (r.fdiv s);refine aA (fun hc=>?_) (fun hc=>?_)
 . have hc:fR (p.fdiv q) (r.fdiv s)≠0:=by simpa using hc
   simp only[go_sem,u,afJ hg c3];refine cI ?_;rw[F,FF hq hs (fun e=>hc (nZ e))]
 have hc:p.fdiv q=r.fdiv s:=Cm.1 (by simpa using hc);have hX:=G8 hq hs hc;generalize p.fmod q=m at *;generalize r.fmod s=n at *;simp only[go_sem,M,O,Z,T,u,tW];refine aA (fun hz=>?_) (fun hz=>?_)
 . have hz:m=0/\n=0:=by simpa using hz
   simp only[go_sem];refine cI ?_;rw[F,hX,hz.1,hz.2,Int.zero_mul,Int.zero_mul,nZ rfl,Int.mul_zero]
 simp only[go_sem,M,O,Z,T,u,tW];refine aA (fun I=>?_) (fun I=>?_)
 . have I:m=0:=of_decide_eq_true I
   have J:0<n:=by
     rcases Xbq 0 n with h|h
     . exact h
     . exfalso
       have:n=0:=by omega
       rw[I,this]at hz;cases hz
   simp only[go_sem,u,F6 hg];refine cI ?_;rw[F,hX,I,Int.zero_mul,gV (Int.mul_pos J hq)];omega
 have I:0<m:=by have:=of_decide_eq_false I;omega
 simp only[go_sem,M,O,Z,T,u,tW];refine aA (fun J=>?_) (fun J=>?_)
 . have J:n=0:=of_decide_eq_true J
   simp only[go_sem,u];refine cI ?_;rw[F,hX,J,Int.zero_mul,gT (Int.mul_pos I hs)];omega
 have J:0<n:=by have:=of_decide_eq_false J;omega
 simp only[go_sem,M,O,Z,T,u,F6 hg];refine⟨⟨q,m,s,n,-g,rfl,rfl,rfl,rfl,rfl,by omega,I,J,bq,by omega,bs,by omega,?_⟩,?_⟩
 . rw[F,hX,I7]
   rw[Int.mul_neg,Int.neg_mul]
 . rw[Bt,Bt];omega
end Go.Proofs.YtohmomanmikphaaGreatDoor.Nu
end
