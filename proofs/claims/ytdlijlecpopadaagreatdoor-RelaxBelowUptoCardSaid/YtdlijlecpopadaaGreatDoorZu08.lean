import Derived.WalkKit
import Derived.BigCall
import Derived.Deep.LoopGhost
import Derived.Deep.DeepFit
import Derived.Lib.SmallJoins
import Derived.Test.YtdlijlecpopadaaGreatDoorZu07
set_option linter.unusedSimpArgs false
set_option linter.unusedVariables false
set_option maxRecDepth 100000
section
namespace Go.Proofs.YtdlijlecpopadaaGreatDoor.Nu
open Go.Proofs.Tryz(prog)
open Go.Aw Go.Aw.D Go.Proofs Ty Go.Nu Go.RowKit Go.Sort
theorem uF{T e:TypeId}{B b:Nat}{bs:List Value}{w w':World}(h:Lib.IsBuilder T e B b bs w)(O:Below w.heap.size w w'):Lib.IsBuilder T e B b bs w':=by
 have E:∀p,Lib.BuilderAt T e B b p bs w->Lib.BuilderAt T e B b p bs w':=by
   rintro p ⟨h1,v,I,J,Z⟩;refine⟨h1,v,?_,⟨J.1,?_⟩,Z⟩
   . rw[O.block b (Array.getElem?_eq_some_iff.1 I).1];exact I
   . rcases J.2 with h5|⟨g,cap,cur,X,Y,F,e4⟩
     . exact .inl h5
     . exact .inr ⟨g,cap,cur,X,Y,by rw[O.block g (Array.getElem?_eq_some_iff.1 F).1];exact F,e4⟩
 exact h.imp (E _) (E _)
theorem nN{w:World}(k:Nat)(os:Array Obj):Below w.heap.size w (grow (w.drewN k) os):=by
 refine⟨rfl,rfl,rfl,?_,fun i hi=>?_⟩
 . simp[grow]
 . simp only[grow,World.heap_drewN]
   rw[Array.getElem?_append_left hi]
theorem JX{T e:TypeId}{B b:Nat}{l:List UInt8}{s:ByteArray}{w:World}(h:Lib.BuilderAt T e B b (.pointer (some ⟨b,0,none⟩)) (Lib.byteCells l++Lib.strCells s) w):Lib.IsBuilder T e B b (Lib.byteCells (l++bl s)) w:=by
 rw[Lib.strCells_eq,<-Lib.byteCells_append]at h;exact .inr h
theorem uG(B b:Nat)(l:List UInt8)(s:ByteArray)(w:World)(h:Lib.IsBuilder 265 5 B b (Lib.byteCells l) w)(E:l.length+s.size<=140737488355328)(F:B<=w.heap.size):
   Calls prog 209 #[.pointer (some ⟨b,0,none⟩),.string s] w fun e w'=>e=.returned (.tuple #[.int .i64 s.size,.nilIface])/\Lib.IsBuilder 265 5 B b (Lib.byteCells (l++bl s)) w'/\Below B w w':=
 (Any.Builder_WriteString (P:=prog) (ρ:=Tryz.lays105_ren) { Tryz.lays105 with } Tryz.Builder_Extra_105 B b (Lib.byteCells l) s w h (by rw[Lib.byteCells_length];exact E) F).mono fun e w' ⟨J,I,O⟩=>⟨J,JX I,O⟩
theorem acL{l:List Nat}(h:Lim bas l)(K:Nat)(E:l.length<=K)(h1:1<=K):(Lib.decDigits (ofL bas l)).length<=9*K:=by
 refine(iK (by omega)).2 (Xcc (oH (by decide) h) ?_);rw[show bas=10^9 from rfl,<-Nat.pow_mul];exact Xay (by omega) (by omega)
def GZ(n k:Nat):List UInt8:=Lib.decDigits (ofL bas ((bK bas n).drop k))
theorem UO{n k x:Nat}(F:k+1<(bK bas n).length)(E:(bK bas n)[k]?=some x):GZ n k=GZ n (k+1)++aBb x:=by
 have h1:=eF (b:=bas) (by decide) n x (Xad E);unfold GZ;rw[yD bas E];exact Zk h1 (Ya (by decide) F)
set_option maxHeartbeats 1600000 in
theorem Oq (n:Nat) (w:World) (b o c:Nat) (ae:(bK bas n).length<=1048576) (ac:0<(bK bas n).length)
    (hz:∀(i x:Nat),(bK bas n)[i]?=some x->w.cell? ⟨b,o+i,none⟩=some (.int .i64 x)) (hb:b<w.heap.size)
    (O:Lib.TabIs prog w "internal/strconv.uint64pow10" .u64 Lib.pow10Tab):
    Calls prog 165 #[.slice (some ⟨b,o,none⟩) (bK bas n).length c] w fun e w'=>e=.returned (.string (dec n))/\Below w.heap.size w w':=by
  obtain⟨L,hL⟩:∃L,(bK bas n).length=L:=⟨_,rfl⟩
  have h0:Lib.IsBuilder 265 5 w.heap.size w.heap.size (Lib.byteCells []) (w.alloc (.cells #[.pointer none,.slice none 0 0] 265)):=Lib.fresh_isBuilder 265 5 w
  have b0:Below w.heap.size w (w.alloc (.cells #[.pointer none,.slice none 0 0] 265)):=(Below.refl _ w).alloc (Xag _) _
  obtain⟨x0,aa⟩:=aQ (show L-1<(bK bas n).length by omega)
  have ao:=hz _ _ aa
  have X:=eF (b:=bas) (by decide) n x0 (Xad aa)
  have X:x0<1000000000:=X
  rw[hL]
  rw[hL]at ac ae
  have am:((L:Int) == 0)=false:=by rw[beq_eq_false_iff_ne];omega
  go_enter Tryz.func165,Tryz.ntmps165
  go_wp2_with (go_at_call 120;refine(Tryz.strconv_Itoa (x0:Int) (by omega) (by omega) _ (Lib.tabIs_alloc O _)).mono ?_)
  rintro e W1 ⟨rfl,k,os,rfl⟩
  have Y:Below w.heap.size w (grow ((w.alloc (.cells #[.pointer none,.slice none 0 0] 265)).drewN k) os):=b0.trans ⟨rfl,rfl,rfl,(nN k os).size,fun i hi=>(nN k os).block i (Xcc hi b0.size)⟩
  have h1:=uF h0 (nN k os)
  generalize grow _ os=W1 at *
  have hI:∀x:Nat,(Lib.itoa (x:Int))=Lib.decDigits x:=Lib.itoa_nonneg
  have af:∀x:Nat,x<1000000000->(Lib.decDigits x).length<=9:=fun x hx=>(iK (k:=9) (by omega)).2 hx
  have I:GZ n (L-1)=Lib.decDigits x0:=by
    unfold GZ
    rw[yD bas aa,show L-1+1=L by omega,<-hL,List.drop_length]
    rfl
  have ag:(⟨(Lib.itoa (x0:Int)).toArray⟩:ByteArray).size<=9:=by rw[<-cF,jE,hI];exact af _ X
  have cW:=uG w.heap.size w.heap.size [] _ W1 h1 (by simp only[List.length_nil];omega:([]:List UInt8).length+(⟨(Lib.itoa (x0:Int)).toArray⟩:ByteArray).size<=_) Y.size
  go_wp2_with (go_at_call 209;refine cW.mono ?_)
  rintro e W2 ⟨rfl,h2,b2⟩
  rw[Xbd,jE,hI,<-I]at h2
  have b2:=Y.trans b2
  have al:∀k,(GZ n k).length<=9437184:=fun k=>by
    have:=acL ((eF (b:=bas) (by decide) n).drop k) 1048576 (by rw[Xbl,hL];omega) (by omega)
    unfold GZ
    omega
  clear h0 b0 h1 Y ag I
  go_wp2
  go_loopg [4] (L-1) (fun g s4 wx=>∃k:Nat,k<=L-1/\g=k/\s4=.int .i64 ((k:Int)-1)/\Lib.IsBuilder 265 5 w.heap.size w.heap.size (Lib.byteCells (GZ n k)) wx/\Below w.heap.size w wx)
  case atStart=>exact⟨L-1,Xag _,rfl,by congr 1;omega,h2,b2⟩
  clear h2 b2
  case round=>
    obtain⟨_,hk,rfl,rfl,hB,E⟩:=hrel
    cases gk with
    | zero=>
      have ai:GZ n 0=Lib.decDigits n:=by unfold GZ;rw[Xbr,eO (by decide)]
      rw[ai]at hB
      have cS:=Tryz.Builder_String_any w.heap.size w.heap.size (Lib.decDigits n) wr hB E.size
      go_wp2_with (go_at_call 211;refine cS.mono ?_)
      rintro e W3 ⟨rfl,F⟩
      go_wp2
      go_ret
      exact⟨rfl,E.trans F⟩
    | succ i=>
      obtain⟨x,hx⟩:=aQ (show i<(bK bas n).length by omega)
      have hl:=(E.cell hb).trans (hz i x hx)
      have ak:x<1000000000:=eF (b:=bas) (by decide) n x (Xad hx)
      have aj:(((i+1:Nat):Int)-1)=(i:Int):=by omega
      have ab:=UO (n:=n) (by omega) hx
      have ad:Lib.TabIs prog wr "internal/strconv.uint64pow10" .u64 Lib.pow10Tab:=Go.Joins.tab_stays (g:=1) (by kernel_rfl) O E (Xag _)
      have an:=al (i+1)
      rw[aj]
      go_wp2_with (go_at_call 120;refine(Tryz.strconv_Itoa (x:Int) (by omega) (by omega) _ ad).mono ?_)
      rintro e W1 ⟨rfl,k,os,rfl⟩
      have Y:Below w.heap.size w (grow (wr.drewN k) os):=E.trans ⟨rfl,rfl,rfl,(nN k os).size,fun i hi=>(nN k os).block i (Xcc hi E.size)⟩
      have h1:=uF hB (nN k os)
      clear hB ad
      generalize grow _ os=W1 at *
      have ah:=af x ak
      rw[hI x]
      go_wp2_with (go_at_call 210;fail)
      have e9:(9:Int)-((Lib.decDigits x).length:Nat)=((9-(Lib.decDigits x).length:Nat):Int):=by omega
      rw[e9]
      refine(Tryz.strings_Repeat ⟨#[48]⟩ (9-(Lib.decDigits x).length) W1 (by omega) (by show 1*_<=_;omega)).mono ?_
      rintro e W3 ⟨rfl,F⟩
      have h3:=uF h1 F
      have F:Below w.heap.size w W3:=Y.trans ⟨F.os,F.tape,F.output,F.size,fun i hi=>F.block i (Xcc hi Y.size)⟩
      have J:bl ⟨(Lib.repeatL (⟨#[48]⟩:ByteArray).data.toList (9-(Lib.decDigits x).length)).toArray⟩=List.replicate (9-(Lib.decDigits x).length) 48:=by
        rw[jE]
        have:=Lib.repeatL_replicate 48 1 (9-(Lib.decDigits x).length)
        rwa [Nat.mul_one]at this
      clear h1 Y
      generalize (⟨(Lib.repeatL (⟨#[48]⟩:ByteArray).data.toList (9-(Lib.decDigits x).length)).toArray⟩:ByteArray)=Z at *
      have hZ:Z.size<=9:=by rw[<-cF,J,Xcj];omega
      have cW:=uG w.heap.size w.heap.size _ Z W3 h3 (by omega) F.size
      go_wp2_with (go_at_call 209;refine cW.mono ?_)
      rintro e W4 ⟨rfl,h4,b4⟩
      have b4:=F.trans b4
      clear cW h3 F
      have hX:(⟨(Lib.decDigits x).toArray⟩:ByteArray).size<=9:=by rw[<-cF,jE];exact ah
      have cW:=uG w.heap.size w.heap.size _ ⟨(Lib.decDigits x).toArray⟩ W4 h4 (by rw[Xae,cF];omega) b4.size
      go_wp2_with (go_at_call 209;refine cW.mono ?_)
      rintro e W5 ⟨rfl,h5,b5⟩
      have b5:=b4.trans b5
      rw[Xav,J,jE]at h5
      go_wp2
      go_roundg i
      case measure=>omega
      case rel=>exact⟨i,by omega,rfl,rfl,by rw[ab];exact h5,b5⟩
theorem OB{S:Sg}{w:World}{b:Nat}:∀{l:List Nat} {o sz:Nat},0<sz->iG S w b sz o (l.map jN)->∀(i x:Nat),l[i]?=some x->w.cell? ⟨b,o+i,none⟩=some (.int .i64 x)
 | [],_,_,_,_,i,x,h=>by simp at h
 | y::l,o,sz,hp,h,i,x,hx=>by
   simp only[Xbk,iG]at h;obtain⟨h1,F,I⟩:=h;have h1:sz=1:=h1.symm;subst h1;cases i with
   | zero=>
     simp only[List.getElem?_cons_zero,Option.some.injEq]at hx;subst hx;simp only[jN,cU]at F;obtain⟨⟨u,J,_,E⟩,_⟩:=F;simp only[rep]at E;subst E;exact J
   | succ i=>
     have:=OB (by omega) I i x (by simpa using hx)
     rwa [Nat.add_assoc,Nat.add_comm 1 i]at this
theorem Y0{w:World}(h:∀t∈Vy,sT w t.1=some t.2):Lib.TabIs prog w "internal/strconv.uint64pow10" .u64 Lib.pow10Tab:=by
 have h1:=h (1,Ys) (by simp[Vy]);unfold Lib.TabIs World.var?;rw[show prog.globalNamed "internal/strconv.uint64pow10" = some 1 by kernel_rfl];exact h1
theorem Fy(n:Nat)(J:(bK bas n).length<=1048576):PC prog 165 [nl n] (str (dec n)):=by
 by_cases h0:n=0
 . subst h0
   rw[KP];refine pcd Tryz.func165 ?_;unfold Tryz.f165;simp only[gdS];simp only[go_sem];refine aB (fun h=>?_) (fun h=>by simp at h);simp only[go_sem];refine cS ?_;refine lB ?_;rw[gZ,Lib.decDigits_one (by omega)];rfl
 . intro S w vals I hf ha
   simp only[bC,rep]at ha;obtain⟨y,t,rfl,⟨ad,m,c,rfl,e1,e2,e3,Y⟩,rfl⟩:=ha;have O:bK bas n≠[]:=fun e=>h0 ((rZ (by decide)).1 e)
   have X:=Xcy.2 O;rw[Xaa]at e1;rcases Y with Y|⟨b,o,sz,rfl,Z,aa,F⟩
   . simp only[Xbq]at Y;exact absurd Y O
   . subst e1
     refine(Oq n w b o c J X (OB aa F) (I.fz_lt b (I.ro_fz b Z)) (Y0 fun t ht=>(I.tabs t ht).2)).mono fun e w' ⟨he,E⟩=>?_
     exact⟨_,_,bS,S,he,rfl,I.after E.size fun k hk=>E.block k hk,by simp only[rep],I.grow E.os E.tape E.output E.size fun k hk=>E.block k hk,fM.refl _ _⟩
theorem Bs(n:Nat)(F:(bK bas n).length<=1048576):PC prog 146 [nl n] (.tup [str (szN n).1,int (szN n).2]):=by
 refine pcd Tryz.func146 ?_;unfold Tryz.f146;simp only[gdS];simp only[go_sem];refine PC.use (Fy n F) ?_;simp only[go_sem];have E:=iB n;refine aB (fun h=>?_) (fun h=>?_)
 . have h:4096<(dec n).size:=by simp at h;omega
   simp only[go_sem];rw[show szN n=(emp,4)from if_neg fun e=>by have:=E.2 e;omega];exact .refl _
 . have h:(dec n).size<=4096:=by simp at h;omega
   simp only[go_sem];rw[yM (E.1 h)];exact .refl _
end Go.Proofs.YtdlijlecpopadaaGreatDoor.Nu
end
section
namespace Go.Proofs.YtdlijlecpopadaaGreatDoor.Nu
open Go.Proofs.Tryz(prog)
open Go.Aw Go.Aw.D Go.Proofs Ty Go.Nu
theorem Sz{n K:Nat}(h:n<cO)(E:ZH<=9*K):(bK bas n).length<=K:=by
 refine mN (b:=bas) (k:=K) (by decide) (Xcc h ?_);rw[show bas=10^9 from rfl,<-Nat.pow_mul];exact Xay (show 0<10 by omega) E
theorem lI{n:Nat}(h:n<cO):(bK bas n).length<=457:=Sz h (by decide)
theorem abK{H:aJ}{o l:List Nat}(h:l=o):ConvE H (dA o).es (l.map jN):=h▸ConvE.refl _
theorem IB:∀l:List Nat,mS l=l.take (mS l).length
 | []=>rfl
 | x::l=>by
   have ih:=IB l;rw[mS];split
   . split <;> rfl
   . rename_i y t e
     rw[e]at ih;simp only[Xac,List.take_succ_cons]
     congr 1
theorem UH{l:List Nat}(h:l.length<=(mS l).length):mS l=l:=by
 rw[IB l,Xaw h]
theorem Zc(a b:ByteArray)(ha:a.size<=1048576)(I:b.size<=1048576):PC prog 112 [str a,str b] (.tup [str (RE a b).1,int (RE a b).2]):=by
 refine pcb (fun t=>t == 9) Tryz.func112 ?_;unfold Tryz.f112;simp only[gdS];simp only[go_sem];refine PC.use (MH a b ha I) ?_;simp only[go_sem];refine aB (fun h=>?_) (fun h=>?_)
 . have h:jD a b≠0:=by simpa using h
   simp only[go_sem];rw[show RE a b=(emp,jD a b)from if_neg h];exact .refl _
 have h:jD a b=0:=by simpa using h
 obtain⟨m,n,rfl,rfl,hm,hn⟩:=pY h;have ai:=lI hm;have ag:=lI hn;simp only[go_sem,FV h,bW];rw[show RE (dec m) (dec n)=szN (m+n)by unfold RE;rw[if_pos h,bW,bW]];have om:=eO (b:=bas) (by decide) m;have on:=eO (b:=bas) (by decide) n;have lm:=eF (b:=bas) (by decide) m;have ln:=eF (b:=bas) (by decide) n;have ad:(bK bas m).length<=(bK bas m).length:=Xag _;have aa:(bK bas n).length<=(bK bas n).length:=Xag _;obtain⟨x,hx⟩:∃x,bK bas m=x:=⟨_,rfl⟩;obtain⟨y,hy⟩:∃y,bK bas n=y:=⟨_,rfl⟩;have ad:x.length<=(bK bas m).length:=by rw[hx];exact Xag _
 have aa:y.length<=(bK bas n).length:=by rw[hy];exact Xag _
 rw[hx]at om lm ai;rw[hy]at on ln ag;simp only[hx,hy];refine aN fun j hj=>?_
 refine⟨fun ρ H=>∃(i j c:Nat) (o:List Nat),i<=max x.length y.length+1/\ρ 6=.sl (x.map jN)/\ρ 7=.sl (y.map jN)/\ρ 9=.os j/\ρ 10=int c/\ρ 11=int i/\H j=some (dA o)/\Lim bas o/\o.length=i/\c<=1/\ofL bas o+bas^i*c=ofL bas (x.take i)+ofL bas (y.take i)/\(i=max x.length y.length+1->c=0/\bas^max x.length y.length<=m+n),fun ρ _=>max x.length y.length+1-aX (ρ 11),
   ⟨0,j,0,[],Xab _,by simp only[go_sem],by simp only[go_sem],by simp only[go_sem],by simp only[go_sem];rfl,by simp only[go_sem];rfl,JU,by simp[Lim],rfl,by omega,by simp[ofL],by omega⟩,?_⟩
 clear hj j;rintro ρ H ⟨i,j,c,o,hi,h6,Z,h9,E,F,Rj,ho,X,hc,hv,J⟩;have ac:gA (x.length:Int) (y.length:Int)=((max x.length y.length:Nat):Int):=by unfold gA;split <;> omega
 simp only[go_sem,h6,Z,h9,E,F,ac];refine aB (fun I=>?_) (fun I=>?_)
 . have I:i<max x.length y.length\/0<c:=by simpa using I
   have ak:i<=max x.length y.length:=by
     rcases I with I|I
     . omega
     . rcases Xbe (max x.length y.length) i with h|h
       . have:=(J (by omega)).1;omega
       . exact h
   have al:x.getD i 0<1000000000:=lm.getD (by decide) i;have am:y.getD i 0<1000000000:=ln.getD (by decide) i;have aj:=W0 (b:=bas) (by decide) X hv;have Y:i+1=max x.length y.length+1->(x.getD i 0+y.getD i 0+c)/bas=0/\bas^max x.length y.length<=m+n:=fun e=>by
     have e:i=max x.length y.length:=by omega
     have af:x.getD i 0=0:=by simp[List.getD,List.getElem?_eq_none (by omega:x.length<=i)]
     have ah:y.getD i 0=0:=by simp[List.getD,List.getElem?_eq_none (by omega:y.length<=i)]
     have ae:c=1:=by omega
     rw[af,ah,ae];refine⟨by decide,?_⟩;rw[Xaw (by omega),Xaw (by omega),om,on,ae,e]at hv;omega
   simp only[go_sem,h6,Z,h9,E,F];refine PC.use (Q6 x i (by omega)) ?_;simp only[go_sem,h6,Z,h9,E,F];refine PC.use (Q6 y i (by omega)) ?_;have e1:IntKind.i64.wrap (IntKind.i64.wrap (((x.getD i 0:Nat):Int)+((y.getD i 0:Nat):Int))+(c:Int))=((x.getD i 0+y.getD i 0+c:Nat):Int):=by
     rw[show IntKind.i64.wrap (((x.getD i 0:Nat):Int)+((y.getD i 0:Nat):Int))=((x.getD i 0:Nat):Int)+((y.getD i 0:Nat):Int)from aW (by omega),aW (by omega)];omega
   have e2:IntKind.i64.wrap ((((x.getD i 0+y.getD i 0+c:Nat):Int)).tdiv 1000000000)=(((x.getD i 0+y.getD i 0+c)/1000000000:Nat):Int):=by
     rw[Xbp (by omega),aW (by omega)];omega
   have e3:(((x.getD i 0+y.getD i 0+c:Nat):Int)).tmod 1000000000=(((x.getD i 0+y.getD i 0+c)%1000000000:Nat):Int):=by
     rw[Xda (by omega)];omega
   have hq:(x.getD i 0+y.getD i 0+c)/1000000000<=1:=by omega
   simp only[go_sem,h6,Z,h9,E,F,e1,e2,e3];refine⟨by decide,?_⟩;refine bG Rj ⟨rfl,rfl⟩ ⟨rfl,trivial⟩ (by simp only[dA,Xaa,Xac,List.length_nil];omega) (fun j' an=>?_);simp only[go_sem,h6,Z,h9,E,F,e2,aS (show i<=4611686018427387904 by omega)];exact⟨by decide,⟨i+1,j',_,o++[(x.getD i 0+y.getD i 0+c)%bas],by omega,rfl,rfl,rfl,vE,ho.snoc (Nat.mod_lt _ (by decide)),by simp[X],hq,aj,Y⟩,by simp only[aG];omega⟩
 . have I : max x.length y.length <= i /\ c = 0 := by
     simp at I;omega
   obtain⟨I,rfl⟩:=I;rw[Nat.mul_zero,Nat.add_zero,Xaw (by omega),Xaw (by omega),om,on]at hv;have ht:=J1 (b:=bas) (by decide) ho hv;have ab:o.length<=(bK bas (m+n)).length:=by
     rcases Xbe (max x.length y.length) i with h|h
     . have:=Kb (b:=bas) (by decide) (J (by omega)).2
       omega
     . rw[X,show i=max x.length y.length by omega]
       exact Nat.max_le.2 ⟨Xah ad (fL (by decide) (Nat.le_add_right m n)),Xah aa (fL (by decide) (Nat.le_add_left n m))⟩
   have O:bK bas (m+n)=o:=by
     rw[<-ht];refine UH ?_;rw[ht] ;exact ab
   simp only[go_sem,h6,Z,h9,E,F];refine PC.useF [j] (.cons _ _ _ _ (.row _ _ _ (by simp only[Xak,if_true];exact Rj) (abK O)) .nil) (Bs (m+n) (by rw[O];omega)) ?_;simp only[go_sem];exact .refl _
theorem WN(a b:ByteArray)(Y:a.size<=1048576)(O:b.size<=1048576):PC prog 113 [str a,str b] (.tup [str (Rv a b).1,int (Rv a b).2]):=by
 refine pcd Tryz.func113 ?_;unfold Tryz.f113;simp only[gdS];simp only[go_sem];refine PC.use (MH a b Y O) ?_;simp only[go_sem];refine aB (fun h=>?_) (fun h=>?_)
 . have h:jD a b≠0:=by simpa using h
   simp only[go_sem];rw[show Rv a b=(emp,jD a b)from if_neg h];exact .refl _
 have h:jD a b=0:=by simpa using h
 obtain⟨m,n,rfl,rfl,hm,hn⟩:=pY h;have Z:=lI hm;have X:=lI hn;simp only[go_sem,FV h,bW];have e:Rv (dec m) (dec n)=if m<n then(emp,2)else szN (m-n):=by unfold Rv;rw[if_pos h,bW,bW]
 rw[e];refine PC.use (Dr m n (by omega) (by omega)) ?_;simp only[go_sem];refine aB (fun E=>?_) (fun E=>?_)
 . have F : m < n := by
     rcases Xbe m n with J|J
     . exact J
     . exfalso
       have E:=of_decide_eq_true E;unfold iQ at E;rw[if_neg (by omega)]at E;split at E <;> omega
   simp only[go_sem];rw[if_pos F];exact .refl _
 . have I:¬m<n:=fun J=>of_decide_eq_false E (by rw[kP (by omega)];decide)
   simp only[go_sem];rw[if_neg I];refine PC.use (EA m n (by omega) (by omega)) ?_;simp only[go_sem];refine PC.use (Bs (m-n) (by have:=fL (b:=bas) (by decide) (Nat.sub_le m n);omega)) ?_;simp only[go_sem];exact .refl _
theorem aoI(a b:ByteArray)(J:a.size<=1048576)(F:b.size<=1048576):PC prog 111 [str a,str b] (.tup [str (Bw a b).1,str (Bw a b).2.1,int (Bw a b).2.2]):=by
 refine pcd Tryz.func111 ?_;unfold Tryz.f111;simp only[gdS];simp only[go_sem];refine PC.use (MH a b J F) ?_;simp only[go_sem];refine aB (fun h=>?_) (fun h=>?_)
 . have h:jD a b≠0:=by simpa using h
   simp only[go_sem];rw[show Bw a b=(emp,emp,jD a b)from if_neg h];exact .refl _
 have h:jD a b=0:=by simpa using h
 obtain⟨m,n,rfl,rfl,X,Y⟩:=pY h;have O:=lI X;have I:=lI Y;simp only[go_sem,FV h,bW,Xaa];have e:Bw (dec m) (dec n)=if n=0 then(emp,emp,10)else(dec (m/n),dec (m%n),0):=by unfold Bw;rw[if_pos h,bW,bW]
 rw[e];refine aB (fun E=>?_) (fun E=>?_)
 . have h0:n=0:=(rZ (b:=bas) (by decide)).1 (by simpa using E)
   simp only[go_sem];rw[if_pos h0];exact .refl _
 . have h0:n≠0:=fun e=>by subst e;rw[eZ]at E;simp at E
   simp only[go_sem];rw[if_neg h0];refine PC.use (O1 m n (by omega) (by omega) (by omega)) ?_;simp only[go_sem];refine PC.use (Fy (m/n) (by have:=fL (b:=bas) (by decide) (Xde m n);omega)) ?_;simp only[go_sem];refine PC.use (Fy (m%n) (by have:=fL (b:=bas) (by decide) (Nat.mod_le m n);omega)) ?_;simp only[go_sem];exact .refl _
theorem abZ(a b:ByteArray)(ha:a.size<=1048576)(E:b.size<=1048576):PC prog 86 [str a,str b] (.tup [str (Av a b).1,int (Av a b).2]):=by
 refine pcd Tryz.func86 ?_;unfold Tryz.f86;simp only[gdS];simp only[go_sem];refine PC.use (MH a b ha E) ?_;simp only[go_sem];refine aB (fun h=>?_) (fun h=>?_)
 . have h:jD a b≠0:=by simpa using h
   simp only[go_sem];rw[show Av a b=(emp,jD a b)from if_neg h];exact .refl _
 have h:jD a b=0:=by simpa using h
 obtain⟨m,n,rfl,rfl,hm,hn⟩:=pY h;have Z:=lI hm;have Y:=lI hn;simp only[go_sem,FV h,bW];have e:Av (dec m) (dec n)=szN (Nat.gcd m n):=by unfold Av;rw[if_pos h,bW,bW]
 rw[e];refine⟨fun ρ _=>∃p q:Nat,ρ 6=nl p/\ρ 7=nl q/\(bK bas p).length<=457/\(bK bas q).length<=457/\Nat.gcd p q=Nat.gcd m n,fun ρ _=>match ρ 7 with| .sl es=>ofL bas (es.map fun c=>aX (c.getD 0 .any))|_=>0,⟨m,n,by simp only[go_sem],by simp only[go_sem],Z,Y,rfl⟩,?_⟩;rintro ρ H ⟨p,q,X,O,aa,F,hg⟩;have J:∀q:Nat,ofL bas (((bK bas q).map jN).map fun c=>aX (c.getD 0 .any))=q:=fun q=>by
   rw[List.map_map,show((fun c:List AV=>aX (c.getD 0 .any)) ∘ jN)=id from funext fun n=>by simp[jN,aX],List.map_id,eO (by decide)]
 simp only[go_sem,X,O,Xaa];refine aB (fun E=>?_) (fun E=>?_)
 . have I : 0 < q := by
     rcases Nat.eq_zero_or_pos q with h0|h0
     . subst h0;rw[eZ]at E;simp at E
     . exact h0
   simp only[go_sem,X,O];refine PC.use (O1 p q (by omega) I (by omega)) ?_;simp only[go_sem,X,O];refine⟨⟨q,p%q,rfl,rfl,F,Xah (fL (by decide) (Nat.le_of_lt (Nat.mod_lt p I))) F,?_⟩,?_⟩
   . rw[<-hg,Nat.gcd_comm p q,Nat.gcd_rec q p,Nat.gcd_comm]
   . rw[J,J];exact Nat.mod_lt p I
 . have I : q = 0 := by
     have:(bK bas q).length=0:=by simp at E;simpa using E
     exact(rZ (b:=bas) (by decide)).1 (List.eq_nil_of_length_eq_zero this)
   subst I;simp only[go_sem,X,O];rw[Nat.gcd_zero_right]at hg;rw[<-hg];refine PC.use (Bs p (by omega)) ?_;simp only[go_sem];exact .refl _
theorem ahF{b:Nat}(O:0<b){l:List Nat}{q p:Nat}(h:ofL b l<b^q)(I:q<=p)(F:p<l.length):l[p]?=some 0:=by
 obtain⟨x,E⟩:=aQ F;rcases Nat.eq_zero_or_pos x with h0|h0
 . rw[E,h0]
 . exfalso
   have J:ofL b l=ofL b (l.take p)+b^p*ofL b (l.drop p):=by
     have:=pS b (l.take p) (l.drop p);rw[Xcz,Xax,Xci (by omega)]at this;exact this
   rw[yD b E]at J;have h1:b^p*1<=b^p*(x+b*ofL b (l.drop (p+1))):=Xdb _ (by omega);have X:b^q<=b^p:=Xay O I;omega
theorem aoK(a b:ByteArray)(ha:a.size<=1048576)(hb:b.size<=1048576):PC prog 214 [str a,str b] (.tup [str (PQ a b).1,int (PQ a b).2]):=by
 refine pcb (fun t=>t == 9) Tryz.func214 ?_;unfold Tryz.f214;simp only[gdS];simp only[go_sem];refine PC.use (MH a b ha hb) ?_;simp only[go_sem];refine aB (fun h=>?_) (fun h=>?_)
 . have h:jD a b≠0:=by simpa using h
   simp only[go_sem];rw[show PQ a b=(emp,jD a b)from if_neg h];exact .refl _
 have h:jD a b=0:=by simpa using h
 obtain⟨m,n,rfl,rfl,hm,hn⟩:=pY h;have au:=lI hm;have aw:=lI hn;simp only[go_sem,FV h,bW,Xaa];rw[show PQ (dec m) (dec n)=szN (m*n)by unfold PQ;rw[if_pos h,bW,bW]];have om:=eO (b:=bas) (by decide) m;have on:=eO (b:=bas) (by decide) n;have lm:=eF (b:=bas) (by decide) m;have ln:=eF (b:=bas) (by decide) n;have ap:(bK bas (m*n)).length<=(bK bas m).length+(bK bas n).length:=by
   refine mN (by decide) ?_;have h1:=oH (b:=bas) (by decide) lm;have h2:=oH (b:=bas) (by decide) ln;rw[om]at h1;rw[on]at h2;rw[Nat.pow_add];exact Nat.mul_lt_mul'' h1 h2
 obtain⟨x,hx⟩:∃x,bK bas m=x:=⟨_,rfl⟩;obtain⟨y,hy⟩:∃y,bK bas n=y:=⟨_,rfl⟩;rw[hx]at om lm au ap;rw[hy]at on ln aw ap;have ew:IntKind.i64.wrap ((x.length:Int)+(y.length:Int))=((x.length+y.length:Nat):Int):=by rw[aW (by omega)];omega
 simp only[hx,hy,ew];refine⟨by omega,aN fun j hj=>?_⟩;simp only[go_sem];refine⟨fun ρ H=>∃(i:Nat) (out:List Nat),i<=x.length/\ρ 7=.sl (y.map jN)/\ρ 9=.os j/\ρ 32=.sl (x.map jN)/\ρ 33=int x.length/\ρ 34=int i/\H j=some (dA out)/\Lim bas out/\out.length=x.length+y.length/\ofL bas out=ofL bas (x.take i)*ofL bas y,fun ρ _=>x.length-aX (ρ 34),
   ⟨0,List.replicate (x.length+y.length) 0,Xab _,by simp only[go_sem],by simp only[go_sem],by simp only[go_sem],by simp only[go_sem,Xaa],by simp only[go_sem];rfl,?_,Lim.zeros (by decide) _,by simp,by simp[ofL,WG]⟩,?_⟩
 . rw[aA]
   simp only[dA,List.map_replicate,Ju];rfl
 clear hj;rintro ρ H ⟨i,out,hi,Z,h9,E,I,F,Rj,ho,ar,hv⟩;simp only[go_sem,Z,h9,E,I,F];refine aB (fun ah=>?_) (fun an=>?_)
 . have ah:=ltB ah
   obtain⟨J,am⟩:=aQ ah;have b1:=inB ah;have az:J<1000000000:=lm J (Xad am);have av:out[i+y.length]?=some 0:=by
     refine ahF (b:=bas) (by decide) (q:=i+y.length) ?_ (Xag _) (by omega);rw[hv,Nat.pow_add];have h1:=oH (b:=bas) (by decide) (lm.take i);rw[Xax,Xci hi]at h1;exact Nat.mul_lt_mul'' h1 (oH (b:=bas) (by decide) ln)
   simp only[go_sem,Z,h9,E,I,F,aH am,b1,Xaa];refine⟨fun ρ H=>∃(k c:Nat) (o:List Nat),k<=y.length/\ρ 7=.sl (y.map jN)/\ρ 9=.os j/\ρ 10=int i/\ρ 11=int J/\ρ 12=int c/\ρ 32=.sl (x.map jN)/\ρ 33=int x.length/\ρ 34=int i/\ρ 39=.sl (y.map jN)/\ρ 40=int y.length/\ρ 41=int k/\H j=some (dA o)/\Lim bas o/\o.length=x.length+y.length/\c<1000000000/\ofL bas o+bas^(i+k)*c=ofL bas out+bas^i*(J*ofL bas (y.take k))/\o[i+y.length]?=some 0,fun ρ _=>y.length-aX (ρ 41),
     ⟨0,0,out,Xab _,by simp only[go_sem,Z],by simp only[go_sem,h9],by simp only[go_sem],by simp only[go_sem],by simp only[go_sem];rfl,by simp only[go_sem,E],by simp only[go_sem,I],by simp only[go_sem,F],by simp only[go_sem,Z],by simp only[go_sem,Xaa],by simp only[go_sem];rfl,Rj,ho,ar,by omega,by simp[ofL],av⟩,?_⟩
   clear Z h9 E I F Rj;rintro ρ H ⟨k,c,o,hk,Z,h9,ab,ac,ag,E,I,F,af,ad,aa,Rj,hO,aq,hc,hV,hZ⟩;simp only[go_sem,Z,h9,ab,ac,ag,E,I,F,af,ad,aa];refine aB (fun O=>?_) (fun ae=>?_)
   . have O:=ltB O
     obtain⟨Y,al⟩:=aQ O;have b2:=inB O;have a0:Y<1000000000:=ln Y (Xad al);obtain⟨v,ai⟩:=aQ (show i+k<o.length by omega);have a4:v<1000000000:=hO v (Xad ai);have b3:0<=((i+k:Nat):Int)/\((i+k:Nat):Int)<((dA o).es.length:Nat):=by
       simp only[dA,Xaa];omega
     have ei:IntKind.i64.wrap ((i:Int)+(k:Int))=((i+k:Nat):Int):=by rw[aW (by omega)];omega
     have ak:(dA o).es.getD (i+k) []=jN v:=aH ai;have ay:J*Y<=999999999*999999999:=Nat.mul_le_mul (by omega) (by omega);have ax:=X0 (b:=bas) (by decide) ai al hV;have e1:IntKind.i64.wrap (IntKind.i64.wrap ((v:Int)+IntKind.i64.wrap ((J:Int)*(Y:Int)))+(c:Int))=((v+J*Y+c:Nat):Int):=by
       rw[show(J:Int)*(Y:Int)=((J*Y:Nat):Int)from(Int.natCast_mul J Y).symm];generalize J*Y=p at *;rw[show IntKind.i64.wrap (p:Int)=(p:Int)from aW (by omega),show IntKind.i64.wrap ((v:Int)+(p:Int))=(v:Int)+p from aW (by omega),aW (by omega)];omega
     have hq:(v+J*Y+c)/1000000000<1000000000:=by omega
     have e2:IntKind.i64.wrap ((((v+J*Y+c:Nat):Int)).tdiv 1000000000)=(((v+J*Y+c)/1000000000:Nat):Int):=by
       generalize v+J*Y+c=p at *;rw[Xbp (by omega),aW (by omega)];omega
     have e3:(((v+J*Y+c:Nat):Int)).tmod 1000000000=(((v+J*Y+c)%1000000000:Nat):Int):=by
       rw[Xda (by omega)];omega
     simp only[go_sem,Z,h9,ab,ac,ag,E,I,F,af,ad,aa,aH al,b2,ei,Rj,b3,ak,e1,e2,e3];have X:i+k<(dA o).es.length:=by simp only[dA,Xaa];omega
     refine⟨rfl,⟨X,Nat.zero_lt_one⟩,by decide,rfl,cE so3 Rj ⟨X,rfl,Xag 1⟩ ?_⟩;generalize hP:aI H j _=HP;have aj:HP j=some (dA (o.set (i+k) ((v+J*Y+c)%bas))):=by
       rw[<-hP,aA];exact congrArg some (EH (q:=(v+J*Y+c)%bas) ai)
     clear hP Rj;simp only[go_sem,Z,h9,ab,ac,ag,E,I,F,af,ad,aa,e2,aS (show k<=4611686018427387904 by omega)];refine⟨by decide,⟨k+1,_,_,O,rfl,rfl,aj,hO.set (Nat.mod_lt _ (by decide)),by simp[aq],hq,ax,?_⟩,by simp only[aG];omega⟩;rw[List.getElem?_set_ne (by omega)];exact hZ
   . have ae:=geB hk ae
     subst ae;have ei:IntKind.i64.wrap ((i:Int)+(y.length:Int))=((i+y.length:Nat):Int):=by rw[aW (by omega)];omega
     have X:i+y.length<(dA o).es.length:=by simp only[dA,Xaa];omega
     have b3:0<=((i+y.length:Nat):Int)/\((i+y.length:Nat):Int)<((dA o).es.length:Nat):=by omega
     have ak:(dA o).es.getD (i+y.length) []=jN 0:=aH hZ;have e1:IntKind.i64.wrap (((0:Nat):Int)+(c:Int))=(c:Int):=by rw[aW (by omega)];omega
     simp only[go_sem,Z,h9,ab,ac,ag,E,I,F,af,ad,aa,Xaa,ei,Rj,b3,ak,e1];refine⟨rfl,⟨X,Nat.zero_lt_one⟩,rfl,cE so3 Rj ⟨X,rfl,Xag 1⟩ ?_⟩;generalize hP:aI H j _=HP;have aj:HP j=some (dA (o.set (i+y.length) c)):=by
       rw[<-hP,aA];exact congrArg some (EH (q:=c) hZ)
     clear hP Rj;have ao:=agR (b:=bas) hZ hV;simp only[go_sem,Z,h9,ab,ac,ag,E,I,F,af,ad,aa,aS (show i<=4611686018427387904 by omega)];refine⟨⟨i+1,_,ah,rfl,aj,hO.set hc,by simp[aq],?_⟩,by simp only[aG];omega⟩;rw[ao,hv,lH bas am,Nat.add_mul,Xcq]
 . have an:=geB hi an
   subst an;simp only[go_sem,h9];rw[Xaf,om,on]at hv;refine PC.useF [j] (.cons _ _ _ _ (.row _ _ _ (by simp only[Xak,if_true];exact Rj) (ConvE.refl _)) .nil) (Je ho (by omega) hv) ?_;simp only[go_sem];refine PC.use (Bs (m*n) (by omega)) ?_;simp only[go_sem];exact .refl _
end Go.Proofs.YtdlijlecpopadaaGreatDoor.Nu
end
section
namespace Go.Proofs.YtdlijlecpopadaaGreatDoor.Nu
open Go.Proofs.Tryz(prog)
open Go.Aw Go.Aw.D Go.Proofs Ty Go.Nu
open Go.RowKit (Below)
theorem Pe(s:ByteArray):Lib.hasPrefix (bl s) [45]=fJ s:=by
 unfold Lib.hasPrefix fJ;cases bl s with
 | nil=>rfl
 | cons c r=>
   by_cases h:c=45
   . subst h;rfl
   . have h1:(some c == some (45:UInt8))=false:=by simpa using h
     have E:((45:UInt8) == c)=false:=by simpa using Ne.symm h
     simp only[List.isPrefixOf,List.head?_cons,h1,E,Xcd]
theorem HW(s:ByteArray):(⟨(Lib.trimPrefix (bl s) [45]).toArray⟩:ByteArray)=dS s:=by
 unfold Lib.trimPrefix dS;rw[Pe];split
 . rfl
 . exact apV s
theorem SE(s:ByteArray):PC prog 169 [str s,str ⟨#[45]⟩] (.tup [str (dS s),boo (fJ s)]):=by
 refine PC.lib (a:=[.string s,.string ⟨#[45]⟩]) (v:=.tuple #[.string (dS s),.bool (fJ s)]) (fun S w=>⟨_,rfl,⟨_,_,rfl,rfl,⟨_,_,rfl,rfl,rfl⟩⟩⟩) fun w _=>(Tryz.strings_CutPrefix s ⟨#[45]⟩ w).mono fun e w' ⟨F,E⟩=>?_
 rw[E];refine⟨F.trans ?_,Below.refl _ _⟩;rw[show s.data.toList=bl s from rfl,show(⟨#[45]⟩:ByteArray).data.toList=[45]from rfl,HW,Pe]
theorem yX(s:ByteArray):PC prog 87 [str s,str ⟨#[45]⟩] (str (dS s)):=by
 refine PC.lib (a:=[.string s,.string ⟨#[45]⟩]) (v:=.string (dS s)) (fun S w=>rfl) fun w _=>(Tryz.strings_TrimPrefix s ⟨#[45]⟩ w).mono fun e w' ⟨F,E⟩=>?_
 rw[E];refine⟨F.trans ?_,Below.refl _ _⟩;rw[show s.data.toList=bl s from rfl,show(⟨#[45]⟩:ByteArray).data.toList=[45]from rfl,HW]
theorem QY(n:Int)(h0: -9223372036854775808<=n)(h1:n<=9223372036854775807):PC prog 120 [int n] (str (zed n)):=by
 refine PC.lib (a:=[.int .i64 n]) (v:=.string (zed n)) (fun S w=>rfl) fun w F=>(Tryz.strconv_Itoa n h0 h1 w (Y0 F)).mono fun e w' ⟨E,k,os,I⟩=>?_
 rw[I];exact⟨E,nN k os⟩
theorem Rb(a b:ByteArray):PC prog 170 [str a,str b] (int (Lib.compareBytes (bl a) (bl b))):=by
 refine PC.lib (a:=[.string a,.string b]) (v:=.int .i64 (Lib.compareBytes (bl a) (bl b))) (fun S w=>rfl) fun w _=>(Tryz.strings_Compare a b w).mono fun e w' ⟨E,F⟩=>?_
 rw[F];exact⟨E,Below.refl _ _⟩
theorem EP:(⟨#[48]⟩:ByteArray)=dec 0:=lB (by rw[gZ,Lib.decDigits_one (by omega)];rfl)
theorem BA:(⟨#[49]⟩:ByteArray)=dec 1:=lB (by rw[gZ,Lib.decDigits_one (by omega)];rfl)
theorem qA(s:ByteArray):(bl s == [48])=eqB s (dec 0):=by unfold eqB;rw[<-EP];rfl
theorem GF(s:ByteArray):(bl s == [49])=eqB s (dec 1):=by unfold eqB;rw[<-BA];rfl
theorem KQ(s:ByteArray):(dS s).size<=s.size:=by
 unfold dS;split
 . rw[<-cF,<-cF,jE,Xbl];omega
 . exact Xag _
theorem ED(s:ByteArray)(h:s.size<=1048576):PC prog 115 [str s] (.tup [boo (fJ s),str (dS s),boo (fZ s)]):=by
 refine pcd Tryz.func115 ?_;unfold Tryz.f115;simp only[gdS];simp only[go_sem];refine PC.use (SE s) ?_;simp only[go_sem];refine PC.use (B7 (dS s) (by have:=KQ s;omega)) ?_;simp only[go_sem,qA];exact .refl _
theorem XA(s:ByteArray)(h:s.size<=1048576):PC prog 82 [str s] (boo (fZ s)):=by
 refine pcd Tryz.func82 ?_;unfold Tryz.f82;simp only[gdS];simp only[go_sem];refine PC.use (ED s h) ?_;simp only[go_sem];exact .refl _
theorem arP(n:Int)(h0: -9223372036854775808<=n)(h1:n<=9223372036854775807):PC prog 61 [int n] (str (zed n)):=by
 refine pcd Tryz.func61 ?_;unfold Tryz.f61;simp only[gdS];simp only[go_sem];refine PC.use (QY n h0 h1) ?_;simp only[go_sem];exact .refl _
def sg(m:Bool)(n:Nat):Int:=if m=true then -(n:Int)else n
theorem aiB(m:Bool)(n:Nat):(if(m&& !eqB (dec n) (dec 0))=true then(⟨#[45]⟩:ByteArray)++dec n else dec n)=zed (sg m n):=by
 unfold sg;by_cases E:n=0
 . subst E
   rw[show eqB (dec 0) (dec 0)=true from nJ.2 rfl];simp only[Xce,Bool.and_false,Xbj,if_false];rw[<-gW];split <;> rfl
 . rw[show eqB (dec n) (dec 0)=false from pJ.2 fun e=>E (rC.1 e)]
   cases m with
   | true=>
     simp only[Xcr,Bool.and_true,if_true];rw[Ct (by omega)];refine lB ?_;rw[mJ,jE,gZ];rfl
   | false=>
     simp only[Xcd,Xbj,if_false];rw[gW]
theorem SF(m:Bool)(n:Nat)(O:(dec n).size<=1048576):PC prog 114 [.agg [boo m,str (dec n)]] (str (zed (sg m n))):=by
 refine pcb (fun t=>t == 1) Tryz.func114 ?_;unfold Tryz.f114;simp only[gdS];simp only[go_sem];refine aN fun j J=>?_
 have R:=aA bS j (some ⟨183,2,[[boo m,str (dec n)]]⟩);generalize aI bS j _=H1 at R |-;simp only[go_sem,R];have E:=aiB m n;have I:(m&& !bl (dec n) == [48])=(m&& !eqB (dec n) (dec 0)):=by rw[<-qA]
 rw[I];refine aB (fun F=>?_) (fun F=>?_)
 . rw[if_pos F]at E
   simp only[go_sem,R];refine⟨by show((1+(dec n).size:Nat):Int)<=9223372036854775807;omega,?_⟩;exact cS E
 . rw[if_neg (by rw[F];simp)]at E
   simp only[go_sem,R];exact cS E
theorem X3(m:Bool)(n:Nat):(sg m n).natAbs=n:=by unfold sg;split <;> omega
theorem F8(m:Bool)(n:Nat):PC prog 172 [.agg [boo m,str (szN n).1],int (szN n).2] (.tup [str (szZ (sg m n)).1,int (szZ (sg m n)).2]):=by
 by_cases E:n<cO
 . have J:=(iB n).2 E
   rw[yM E,show szZ (sg m n)=(zed (sg m n),0)from if_pos (by rw[X3];exact E)];refine pcb (fun t=>t == 2) Tryz.func172 ?_;unfold Tryz.f172;simp only[gdS];simp only[go_sem];refine aN fun j I=>?_
   have R:=aA bS j (some ⟨183,2,[[boo m,str (dec n)]]⟩);generalize aI bS j _=H1 at R |-;simp only[go_sem,R];refine aB (fun F=>by cases F) (fun _=>?_);simp only[go_sem,R];refine PC.use (SF m n (by omega)) ?_;simp only[go_sem];exact .refl _
 . rw[show szN n=(emp,4)from if_neg E,show szZ (sg m n)=(emp,4)from if_neg (by rw[X3];exact E)]
   refine pcb (fun t=>t == 2) Tryz.func172 ?_;unfold Tryz.f172;simp only[gdS];simp only[go_sem];refine aN fun j I=>?_
   simp only[go_sem];refine aB (fun F=>?_) (fun F=>by cases F);simp only[go_sem];exact .refl _
def Ef(s:ByteArray):List AV:=[boo (fJ s),str (dS s)]
theorem OD(s:ByteArray):(Ef s).length=2:=(rfl)
theorem anE(s:ByteArray):(Ef s).getD 0 .any=boo (fJ s):=(rfl)
theorem aoV(s:ByteArray):(Ef s).getD 1 .any=str (dS s):=(rfl)
theorem aaM(s:ByteArray):(Ef s).take 2=Ef s:=(rfl)
attribute [go_sem] OD anE aoV aaM
def En(l:List ByteArray):Row:=⟨183,2,l.map Ef⟩
def XP(s:ByteArray):Bool:=decide ((dS s).size>4096)
def GY(l:List ByteArray):Int:=if l.any (fun s=> !fZ s)=true then 3 else if l.any XP=true then 4 else 0
def zL(l:List ByteArray):List (List AV):=if GY l=0 then l.map Ef else[]
theorem TA{α:Type}{q:α->Bool}{l:List α}{k:Nat}{c:α}(h:l[k]?=some c)(E:q c=true):l.any q=true:=Xau.2 ⟨c,Xad h,E⟩
theorem Ml{α:Type}{q:α->Bool}{l:List α}(h:∀c∈l,q c=false):l.any q=false:=by
 rw[Xby];intro c E;rw[h c E];simp
theorem agG(l:List ByteArray)(hl:l.length<=1048576)(hs:∀s∈l,s.size<=1048576):PC prog 110 [.sl (l.map Go.Aw.D.fK)] (.tup [.sl (zL l),int (GY l)]):=by
 refine pcb (fun t=>t == 4) Tryz.func110 ?_;unfold Tryz.f110;simp only[gdS];simp only[go_sem];refine aN fun j hj=>?_
 simp only[go_sem];refine⟨fun ρ H=>∃(k j:Nat),k<=l.length/\ρ 12=.sl (l.map Go.Aw.D.fK)/\ρ 13=int l.length/\ρ 4=.os j/\ρ 14=int k/\H j=some (En (l.take k))/\∀s∈l.take k,fZ s=true,fun ρ _=>l.length-aX (ρ 14),
   ⟨0,j,Xab _,by simp only[go_sem],by simp only[go_sem,Xaa],by simp only[go_sem],by simp only[go_sem];rfl,aA _ _ _,by simp⟩,?_⟩
 clear hj j;rintro ρ H ⟨k,j,hk,O,X,J,Y,Rj,hz⟩;simp only[go_sem,O,X,J,Y];refine aB (fun E=>?_) (fun I=>?_)
 . have E:=ltB E
   obtain⟨s,F⟩:=aQ E;have b1:=inB E;simp only[go_sem,O,X,J,Y,aH F,b1];refine PC.use (ED s (hs s (Xad F))) ?_;simp only[go_sem,O,X,J,Y];refine aB (fun hb=>?_) (fun hb=>?_)
   . simp only[go_sem]
     have e:GY l=3:=by unfold GY;rw[if_pos (TA F hb)]
     rw[show zL l=[]from if_neg (by rw[e];decide),e];exact .refl _
   . simp only[go_sem,O,X,J,Y]
     refine bG Rj ⟨rfl,rfl⟩ ⟨rfl,trivial⟩ (by simp only[En,Xaa,Xax,Xac,List.length_nil];omega) (fun j' ai=>?_);simp only[go_sem,O,X,J,Y,aS (show k<=4611686018427387904 by omega)];refine⟨⟨k+1,j',E,rfl,rfl,?_,vF F (by simpa using hb) hz⟩,by simp only[aG];omega⟩;rw[aA];simp only[En,bX F,Xat,Xbk,List.map_nil];rfl
 . have I:=geB hk I
   subst I;rw[Xaf]at Rj hz;have hR:l.any (fun s=> !fZ s)=false:=Ml fun s hs=>by rw[hz s hs];rfl
   have ae:((En l).es.length:Int)=l.length:=by simp[En]
   simp only[go_sem,J,Rj,ae];refine⟨fun ρ H=>∃(k:Nat),k<=l.length/\ρ 4=.os j/\ρ 33=.os j/\ρ 34=int l.length/\ρ 35=int k/\H j=some (En l)/\∀s∈l.take k,XP s=false,fun ρ _=>l.length-aX (ρ 35),
     ⟨0,Xab _,by simp only[go_sem,J],by simp only[go_sem],by simp only[go_sem],by simp only[go_sem];rfl,Rj,by simp⟩,?_⟩
   clear J Rj O X Y;rintro ρ H ⟨k,hk,J,ab,Z,aa,Rj,ad⟩;simp only[go_sem,J,ab,Z,aa];refine aB (fun E=>?_) (fun I=>?_)
   . have E:=ltB E
     obtain⟨s,F⟩:=aQ E;have b1:=inB E;have ag:(En l).es.getD k []=Ef s:=aH F;have b2:0<=(k:Int)/\(k:Int)<((En l).es.length:Nat):=by simp only[En,Xaa];exact b1
     simp only[go_sem,J,ab,Z,aa,Rj,b2,ag];have ac:k<(En l).es.length:=by simp only[En,Xaa];exact E
     refine⟨rfl,⟨ac,Xag 2⟩,?_⟩;refine aN fun i hi=>?_
     simp only[go_sem,J,ab,Z,aa];have af:j≠i:=aO Rj hi;refine aM (aA _ _ _) (by simp[OD]) ?_;generalize hG:aI (aI _ i _) i _=HG;have Ri:HG i=some (⟨183,2,[Ef s]⟩:Row):=by rw[<-hG,aA];rfl
     have ah:HG j=some (En l):=by rw[<-hG,aD _ _ _ _ af,aD _ _ _ _ af];exact Rj
     clear hG hi Rj;simp only[go_sem,J,ab,Z,aa,Ri];have hd:decide (((dS s).size:Int)>4096)=XP s:=by unfold XP;rw[decide_eq_decide];omega
     rw[hd];refine aB (fun hb=>?_) (fun hb=>?_)
     . simp only[go_sem]
       have e:GY l=4:=by unfold GY;rw[if_neg (by rw[hR];simp),if_pos (TA F hb)]
       rw[show zL l=[]from if_neg (by rw[e];decide),e];exact .refl _
     . simp only[go_sem,J,ab,Z,aa,aS (show k<=4611686018427387904 by omega)]
       exact⟨⟨k+1,E,rfl,ah,vF F hb ad⟩,by simp only[aG];omega⟩
   . have I:=geB hk I
     subst I;rw[Xaf]at ad;simp only[go_sem,J];have e:GY l=0:=by unfold GY;rw[if_neg (by rw[hR];simp),if_neg (by rw[Ml ad];simp)]
     rw[show zL l=l.map Ef from if_pos e,e];exact .tup _ _ (.cons _ _ _ _ (.row _ _ _ Rj (ConvE.refl _)) (ConvL.refl _))
end Go.Proofs.YtdlijlecpopadaaGreatDoor.Nu
end
section
namespace Go.Proofs.YtdlijlecpopadaaGreatDoor.Nu
open Go.Proofs.Tryz(prog)
open Go.Aw Go.Aw.D Go.Proofs Ty Go.Nu
theorem Dm:∀{l r:List UInt8},l.all isD=true->r.all isD=true->l.length=r.length->Lib.compareBytes l r=iQ (gN l) (gN r)
 | [],[],_,_,_=>by rw[rX rfl];rfl
 | [],_::_,_,_,h=>by simp at h
 | _::_,[],_,_,h=>by simp at h
 | a::l,b::r,hl,hr,h=>by
   simp only[List.all_cons,Xam]at hl hr;simp only[Xac,Nat.add_right_cancel_iff]at h;have ih:=Dm hl.2 hr.2 h;have Y:gN (a::l)=(a.toNat-48)*10^l.length+gN l:=by
     have:=tM [a] l;simpa[gN]using this
   have J:gN (b::r)=(b.toNat-48)*10^r.length+gN r:=by
     have:=tM [b] r;simpa[gN]using this
   have h1:=EG hl.2;have h2:=EG hr.2;have da:=lM.1 hl.1;have db:=lM.1 hr.1;rw[Lib.compareBytes,Y,J,<-h]at *;have F:a<b↔a.toNat<b.toNat:=UInt8.lt_iff_toNat_lt;have I:b<a↔b.toNat<a.toNat:=UInt8.lt_iff_toNat_lt;split
   . rename_i E
     rw[F]at E;have:(a.toNat-48+1)*10^l.length<=(b.toNat-48)*10^l.length:=Xbm _ (by omega);rw[Nat.add_mul]at this;rw[kP (by omega)]
   . split
     . rename_i E
       rw[I]at E;have:(b.toNat-48+1)*10^l.length<=(a.toNat-48)*10^l.length:=Xbm _ (by omega);rw[Nat.add_mul]at this;rw[kO (by omega)]
     . rename_i n1 X
       rw[F]at n1;rw[I]at X;have:a.toNat=b.toNat:=by omega
       rw[ih,this];generalize (b.toNat-48)*10^l.length=p;unfold iQ;have Z:(((p+gN l:Nat):Int)<((p+gN r:Nat):Int))↔((gN l:Nat):Int)<((gN r:Nat):Int):=by omega
       have O:(((p+gN r:Nat):Int)<((p+gN l:Nat):Int))↔((gN r:Nat):Int)<((gN l:Nat):Int):=by omega
       simp only[Z,O]
theorem FD(m n:Nat):PC prog 116 [str (dec m),str (dec n)] (int (iQ m n)):=by
 have I:=gY m;have J:=gY n;have E:∀{p q:Nat},(Lib.decDigits p).length<(Lib.decDigits q).length->p<q:=fun {p q} h=>by
   have h1:=(iK (n:=p) (k:=(Lib.decDigits p).length) (iE p)).1 (Xag _);rcases Xbe p q with F|F
   . exact F
   . have:=(iK (n:=q) (k:=(Lib.decDigits p).length) (iE p)).2 (by omega)
     omega
 refine pcd Tryz.func116 ?_;unfold Tryz.f116;simp only[gdS];simp only[go_sem];refine aB (fun h=>?_) (fun h=>?_)
 . have h:(dec m).size≠(dec n).size:=neN h
   simp only[go_sem];refine aB (fun F=>?_) (fun F=>?_)
   . have F:=ltB F
     simp only[go_sem];have:=E (p:=m) (q:=n) (by omega);exact cI (by rw[kP (by omega)])
   . have F:¬(dec m).size<(dec n).size:=by have:=of_decide_eq_false F;omega
     simp only[go_sem];have:=E (p:=n) (q:=m) (by omega);exact cI (by rw[kO (by omega)])
 . have h:(dec m).size=(dec n).size:=eqN h
   simp only[go_sem];refine PC.use (Rb (dec m) (dec n)) ?_;simp only[go_sem];refine cI ?_;rw[gZ,gZ,Dm (tZ m) (tZ n) (by omega),oG,oG]
theorem SW(a b:ByteArray)(F:dK a=true)(E:dK b=true):PC prog 116 [str a,str b] (int (iQ (eH a) (eH b))):=by
 have:=FD (eH a) (eH b)
 rwa [jC F,jC E]at this
theorem CI{s:ByteArray}(h:fZ s=true):dK (dS s)=true:=by
 unfold fZ at h;simp only[Xam]at h;exact h.1
theorem Re(a b:ByteArray)(ha:a.size<=1048576)(Z:b.size<=1048576):PC prog 58 [str a,str b] (int (Y5 a b)):=by
 refine pcd Tryz.func58 ?_;unfold Tryz.f58;simp only[gdS];simp only[go_sem];refine PC.use (ED a ha) ?_;simp only[go_sem];refine PC.use (ED b Z) ?_;simp only[go_sem];refine aB (fun h=>?_) (fun h=>?_)
 . simp only[go_sem]
   refine cI ?_;unfold Y5;rw[if_neg];rintro⟨h1,F⟩;rw[h1,F]at h;cases h
 have O:fZ a=true/\fZ b=true:=by simpa using h
 have ra:=CI O.1;have rb:=CI O.2;have I:∀{s:ByteArray},fZ s=true->fJ s=true->0<eH (dS s):=fun {s} h1 F=>by
   have E:=h1;unfold fZ at E;simp only[F,Xba,Xam,Xbh,pJ]at E;rcases Nat.eq_zero_or_pos (eH (dS s))with h0|h0
   . have:=jC E.1
     rw[h0]at this;exact absurd this.symm E.2
   . exact h0
 have X:Y5 a b=iQ (kL a) (kL b):=if_pos O;rw[X];unfold kL;simp only[go_sem];refine aB (fun F=>?_) (fun F=>?_)
 . have F:fJ a=true/\fJ b=true:=by simpa using F
   simp only[go_sem];refine PC.use (SW _ _ rb ra) ?_;simp only[go_sem];refine cI ?_;rw[if_pos F.1,if_pos F.2];unfold iQ;have c1:(((eH (dS b):Nat):Int)<((eH (dS a):Nat):Int))↔(-((eH (dS a):Nat):Int)< -((eH (dS b):Nat):Int)):=by omega
   have Y:(((eH (dS a):Nat):Int)<((eH (dS b):Nat):Int))↔(-((eH (dS b):Nat):Int)< -((eH (dS a):Nat):Int)):=by omega
   simp only[c1,Y]
 . simp only[go_sem]
   refine aB (fun E=>?_) (fun E=>?_)
   . have J:fJ b=false:=by rw[E]at F;simpa using F
     have:=I O.1 E;simp only[go_sem];refine cI ?_;rw[if_pos E,if_neg (by rw[J];simp),kP (by omega)]
   . simp only[go_sem]
     refine aB (fun J=>?_) (fun J=>?_)
     . have:=I O.2 J
       simp only[go_sem];refine cI ?_;rw[if_neg (by rw[E];simp),if_pos J,kO (by omega)]
     . simp only[go_sem]
       refine PC.use (SW _ _ ra rb) ?_;simp only[go_sem];refine cI ?_;rw[if_neg (by rw[E];simp),if_neg (by rw[J];simp)]
def kU(m:Bool)(n:Nat):List AV:=[boo m,str (dec n)]
theorem CG(m:Bool)(n:Nat):(kU m n).length=2:=(rfl)
theorem aiU(m:Bool)(n:Nat):(kU m n).getD 0 .any=boo m:=(rfl)
theorem ajG(m:Bool)(n:Nat):(kU m n).getD 1 .any=str (dec n):=(rfl)
theorem U3(m:Bool)(n:Nat):(kU m n).take 2=kU m n:=(rfl)
attribute [go_sem] CG aiU ajG U3
theorem LR{m n:Nat}(E:m<cO)(F:n<cO):RE (dec m) (dec n)=szN (m+n):=by unfold RE;rw[if_pos (zO E F),bW,bW]
theorem NN{m n:Nat}(E:m<cO)(F:n<cO)(h:n<=m):Rv (dec m) (dec n)=szN (m-n):=by unfold Rv;rw[if_pos (zO E F),bW,bW,if_neg (by omega)]
theorem dX{m:Nat}(E:m<cO):(dec m).size<=1048576:=by have:=(iB m).2 E;omega
theorem ajX(a b:Bool)(m n:Nat)(hm:m<cO)(hn:n<cO):PC prog 119 [.agg (kU a m),.agg (kU b n)] (.tup [str (szZ (sg a m+sg b n)).1,int (szZ (sg a m+sg b n)).2]):=by
 refine pcb (fun t=>t == 2||t == 3) Tryz.func119 ?_;unfold Tryz.f119;simp only[gdS];simp only[go_sem];refine aN fun i hi=>?_
 simp only[go_sem];refine aN fun j hj=>?_
 have I:=aA bS i (some ⟨183,2,[kU a m]⟩);have J:i≠j:=aO I hj;have F:=aA (aI bS i (some ⟨183,2,[kU a m]⟩)) j (some ⟨183,2,[kU b n]⟩);have E:(aI (aI bS i (some ⟨183,2,[kU a m]⟩)) j (some ⟨183,2,[kU b n]⟩)) i=some ⟨183,2,[kU a m]⟩:=by rw[aD _ _ _ _ J];exact I
 generalize aI (aI bS i _) j _=H1 at *;clear I;simp only[go_sem,E,F];refine aB (fun h=>?_) (fun h=>?_)
 . have Y:a=b:=by simpa using h
   subst Y;simp only[go_sem,E,F];refine PC.use (Zc (dec m) (dec n) (dX hm) (dX hn)) ?_;rw[LR hm hn];simp only[go_sem,E,F];refine PC.use (F8 a (m+n)) ?_;simp only[go_sem];have e:sg a (m+n)=sg a m+sg a n:=by unfold sg;split <;> omega
   rw[e];exact .refl _
 have Y:b= !a:=by cases a <;> cases b <;> simp_all
 subst Y;simp only[go_sem,E,F];refine PC.use (FD m n) ?_;simp only[go_sem,E,F];refine bH (fun Z H'=>∃(a' b':Bool) (p q:Nat),p<cO/\q<cO/\q<=p/\sg a' (p-q)=sg a m+sg (!a) n/\Z 2=.op i 0 0/\Z 3=.op j 0 0/\H' i=some (⟨183,2,[kU a' p]⟩:Row)/\H' j=some (⟨183,2,[kU b' q]⟩:Row)) ?_ fun K hK=>aB (fun X=>?_) (fun X=>?_)
 rotate_left
 . have ad : m < n := by
     rcases Xbe m n with h|h
     . exact h
     . exfalso
       have X:=of_decide_eq_true X;unfold iQ at X;rw[if_neg (by omega)]at X;split at X <;> omega
   simp only[go_sem,E,F];refine aM E (by simp[CG]) ?_;generalize O:aI H1 i _=HP;have I:HP i=some (⟨183,2,[kU (!a) n]⟩:Row):=by rw[<-O,aA];rfl
   have aa:HP j=some (⟨183,2,[kU (!a) n]⟩:Row):=by rw[<-O,aD _ _ _ _ (Ne.symm J)];exact F
   clear O;simp only[go_sem,I,aa];refine aM aa (by simp[CG]) ?_;generalize O:aI HP j _=HQ;have S3:HQ j=some (⟨183,2,[kU a m]⟩:Row):=by rw[<-O,aA];rfl
   have S2:HQ i=some (⟨183,2,[kU (!a) n]⟩:Row):=by rw[<-O,aD _ _ _ _ J];exact I
   clear O;simp only[go_sem];refine hK _ _ ⟨!a,a,n,m,hn,hm,by omega,?_,by simp only[go_sem],by simp only[go_sem],S2,S3⟩;unfold sg;cases a <;> simp <;> omega
 . have ac : n <= m := by
     rcases Xbe m n with h|h
     . exact absurd (by rw[kP (by omega)];decide) (of_decide_eq_false X)
     . exact h
   simp only[go_sem];refine hK _ _ ⟨a,!a,m,n,hm,hn,ac,?_,by simp only[go_sem],by simp only[go_sem],E,F⟩;unfold sg;cases a <;> simp <;> omega
 clear E F;rintro ρ H ⟨a',b',p,q,hp,hq,ab,hv,h2,h3,I,F⟩;simp only[go_sem,h2,h3,I,F];refine PC.use (WN (dec p) (dec q) (dX hp) (dX hq)) ?_;rw[NN hp hq ab];simp only[go_sem,h2,h3,I,F];refine PC.use (F8 a' (p-q)) ?_;simp only[go_sem];rw[hv];exact .refl _
theorem NF(a b:ByteArray):GY [a,b]=lR a b:=by
 unfold GY lR XP;simp only[List.any_cons,List.any_nil,Bool.or_false]
theorem XK(n:Int):Ef (zed n)=kU (decide (n<0)) n.natAbs:=by
 unfold Ef kU;rw[wX,jY]
theorem QI(n:Int):sg (decide (n<0)) n.natAbs=n:=by
 unfold sg;by_cases h:n<0
 . simp[h];omega
 . simp[h];omega
theorem LA{m n:Int}(h:lR (zed m) (zed n)=0):zL [zed m,zed n]=[kU (decide (m<0)) m.natAbs,kU (decide (n<0)) n.natAbs]:=by
 unfold zL;rw[NF,if_pos h];simp only[Xbk,List.map_nil,XK]
theorem BR(a b:ByteArray)(F:a.size<=1048576)(E:b.size<=1048576):PC prog 110 [.sl [[str a],[str b]]] (.tup [.sl (zL [a,b]),int (lR a b)]):=by
 have:=agG [a,b] (by simp) (by simp[F,E])
 rwa [NF]at this
theorem anI(a b:ByteArray)(F:a.size<=1048576)(E:b.size<=1048576):PC prog 60 [str a,str b] (.tup [str (UV a b).1,int (UV a b).2]):=by
 refine pcd Tryz.func60 ?_;unfold Tryz.f60;simp only[gdS];simp only[go_sem];refine PC.use (BR a b F E) ?_;simp only[go_sem];refine aB (fun h=>?_) (fun h=>?_)
 . have h:lR a b≠0:=by simpa using h
   simp only[go_sem];rw[show UV a b=(emp,lR a b)from if_neg h];exact .refl _
 have h:lR a b=0:=by simpa using h
 have e:UV a b=szZ (kL a+kL b):=if_pos h;rw[e];obtain⟨m,n,rfl,rfl,I,J⟩:=vI h;rw[dM,dM,LA h];simp only[go_sem];refine fV (by rfl) (by kernel_rfl) ?_;simp only[go_sem,Xac,List.length_nil]
 repeat (refine⟨by first|decide|omega,?_⟩)
 refine⟨_,(ajX _ _ _ _ I J).q rfl,?_⟩;simp only[go_sem];rw[QI,QI];exact .refl _
theorem anW(a b:ByteArray)(I:a.size<=1048576)(F:b.size<=1048576):PC prog 67 [str a,str b] (.tup [str (UD a b).1,int (UD a b).2]):=by
 refine pcd Tryz.func67 ?_;unfold Tryz.f67;simp only[gdS];simp only[go_sem];refine PC.use (BR a b I F) ?_;simp only[go_sem];refine aB (fun h=>?_) (fun h=>?_)
 . have h:lR a b≠0:=by simpa using h
   simp only[go_sem];rw[show UD a b=(emp,lR a b)from if_neg h];exact .refl _
 have h:lR a b=0:=by simpa using h
 have e:UD a b=szZ (kL a-kL b):=if_pos h;rw[e];obtain⟨m,n,rfl,rfl,J,O⟩:=vI h;rw[dM,dM,LA h];simp only[go_sem];refine fV (by rfl) (by kernel_rfl) ?_;simp only[go_sem,Xac,List.length_nil]
 repeat (refine⟨by first|decide|omega,?_⟩)
 have E:sg (!decide (n<0)) n.natAbs= -n:=by
   unfold sg;by_cases h:n<0
   . simp[h];omega
   . simp[h];omega
 refine⟨_,(ajX _ (!decide (n<0)) _ _ J O).q rfl,?_⟩;simp only[go_sem];rw[QI,E,Int.sub_eq_add_neg];exact .refl _
theorem XJ{m n:Nat}(E:m<cO)(F:n<cO):PQ (dec m) (dec n)=szN (m*n):=by unfold PQ;rw[if_pos (zO E F),bW,bW]
theorem aoS(a b:ByteArray)(X:a.size<=1048576)(O:b.size<=1048576):PC prog 171 [str a,str b] (.tup [str (zH a b).1,int (zH a b).2]):=by
 refine pcd Tryz.func171 ?_;unfold Tryz.f171;simp only[gdS];simp only[go_sem];refine PC.use (BR a b X O) ?_;simp only[go_sem];refine aB (fun h=>?_) (fun h=>?_)
 . have h:lR a b≠0:=by simpa using h
   simp only[go_sem];rw[show zH a b=(emp,lR a b)from if_neg h];exact .refl _
 have h:lR a b=0:=by simpa using h
 have e:zH a b=szZ (kL a*kL b):=if_pos h;rw[e];obtain⟨m,n,rfl,rfl,F,I⟩:=vI h;rw[dM,dM,LA h];simp only[go_sem];refine fV (by rfl) (by kernel_rfl) ?_;simp only[go_sem,Xac,List.length_nil]
 repeat (refine⟨by first|decide|omega,?_⟩)
 refine⟨_,(aoK (dec m.natAbs) (dec n.natAbs) (dX F) (dX I)).q rfl,?_⟩;rw[XJ F I];simp only[go_sem];refine fV (by rfl) (by kernel_rfl) ?_;simp only[go_sem,Xac,List.length_nil]
 repeat (refine⟨by first|decide|omega,?_⟩)
 refine⟨_,(F8 _ (m.natAbs*n.natAbs)).q rfl,?_⟩;simp only[go_sem];have J:sg (!(decide (m<0) == decide (n<0))) (m.natAbs*n.natAbs)=m*n:=by
   unfold sg;rw[Int.natCast_mul];by_cases h1:m<0 <;> by_cases E:n<0
   . simp only[h1,E,decide_true,Xbt,Xce,Xbj,if_false]
     rw[Xck (by omega),Xck (by omega),Int.neg_mul_neg]
   . simp only[h1,E,decide_true,decide_false]
     rw[if_pos (show(!(true == false))=true from rfl),Xck (by omega),Xcl (by omega),Int.neg_mul,Int.neg_neg]
   . simp only[h1,E,decide_true,decide_false]
     rw[if_pos (show(!(false == true))=true from rfl),Xck (a:=n) (by omega),Xcl (by omega),Int.mul_neg,Int.neg_neg]
   . simp only[h1,E,decide_false,Xbt,Xce,Xbj,if_false]
     rw[Xcl (by omega),Xcl (by omega)]
 rw[J];exact .refl _
theorem Bh{P:Program}{C:lW}{PC:FuncId->List AV->aJ->AV->Prop}{mt:Nat->Bool}{ops:Array Oper}{K:Env->aJ->Prop}{m:Nat}{ρ:Env}{H:aJ}(J:Env->aJ->Prop)(h1:∀ρ H,J ρ H->K ρ H)
 (E:∀K':Env->aJ->Prop,(∀ρ H,J ρ H->K' ρ H)->tK P C PC mt ops K' m ρ H):tK P C PC mt ops K m ρ H:=E K h1
abbrev CQ(A:List AV):Row:=⟨183,2,[A]⟩
abbrev zN:Row:=CQ [.v (.bool false),.v (.string ByteArray.empty)]
theorem BV{A:List AV}(h:A.length=2):(⟨183,2,[List.take 2 A++List.drop (List.take 2 A).length [AV.v (.bool false),AV.v (.string ByteArray.empty)]]⟩:Row)=CQ A:=by
 rw[Xaw (by omega),h];simp
theorem OG{m n:Int}(X:n≠0)(F:decide (m<0)≠decide (n<0))(Y:m.natAbs%n.natAbs≠0):
   m.fdiv n= -((m.natAbs/n.natAbs+1:Nat):Int)/\m.fmod n=sg (decide (n<0)) (n.natAbs-m.natAbs%n.natAbs):=by
 have e:=Nat.mod_add_div m.natAbs n.natAbs;have J:=Nat.mod_lt m.natAbs (show 0<n.natAbs by omega);generalize m.natAbs/n.natAbs=q at *;generalize m.natAbs%n.natAbs=r at *;have I:(r:Int)+(n.natAbs:Int)*(q:Int)=(m.natAbs:Int):=by rw[<-Int.natCast_mul,<-Int.natCast_add,e]
 unfold sg;rcases Int.lt_or_gt_of_ne X with h|h
 . have O:¬m<0:=fun E=>F (by simp[h,E])
   rw[Xck (a:=n) (by omega),Xcl (a:=m) (by omega)]at I;refine(Int.fdiv_fmod_unique' h).2 ⟨?_,?_,?_⟩
   . rw[if_pos (by simpa using h)]
     have:(n* -((q+1:Nat):Int))= -n*q-n:=by grind
     rw[this];omega
   . rw[if_pos (by simpa using h)];omega
   . rw[if_pos (by simpa using h)];omega
 . have O : m < 0 := by
     rcases Int.lt_or_le m 0 with E|E
     . exact E
     . exact absurd (by simp;omega) F
   rw[Xcl (a:=n) (by omega),Xck (a:=m) (by omega)]at I;refine(Int.fdiv_fmod_unique h).2 ⟨?_,?_,?_⟩
   . rw[if_neg (by simp;omega)]
     have:(n* -((q+1:Nat):Int))= -(n*q)-n:=by grind
     rw[this];omega
   . rw[if_neg (by simp;omega)];omega
   . rw[if_neg (by simp;omega)];omega
theorem Vs{m n:Int}(X:n≠0)(h0:decide (m<0)=decide (n<0)\/m.natAbs%n.natAbs=0):
   m.fdiv n=sg (!(decide (m<0) == decide (n<0))) (m.natAbs/n.natAbs)/\m.fmod n=sg (decide (n<0)) (m.natAbs%n.natAbs):=by
 have e:=Nat.mod_add_div m.natAbs n.natAbs;have J:=Nat.mod_lt m.natAbs (show 0<n.natAbs by omega);generalize m.natAbs/n.natAbs=q at *;generalize m.natAbs%n.natAbs=r at *;have I:(r:Int)+(n.natAbs:Int)*(q:Int)=(m.natAbs:Int):=by rw[<-Int.natCast_mul,<-Int.natCast_add,e]
 unfold sg;rcases Int.lt_or_gt_of_ne X with h|h
 . rw[Xck (a:=n) (by omega)]at I
   refine(Int.fdiv_fmod_unique' h).2 ?_;by_cases F:m<0
   . rw[Xck (a:=m) (by omega)]at I
     simp only[h,F,decide_true,Xbt,Xce,Xbj,if_false,if_true];have:n*(q:Int)= -(-n*q):=by grind
     exact⟨by rw[this];omega,by omega,by omega⟩
   . rw[Xcl (a:=m) (by omega)]at I
     have O:r=0:=by
       rcases h0 with h0|h0
       . simp[h,F]at h0
       . exact h0
     simp only[h,F,decide_true,decide_false,show(!(false == true))=true from rfl,if_true];have:n* -(q:Int)= -n*q:=by grind
     exact⟨by rw[this];omega,by omega,by omega⟩
 . rw[Xcl (a:=n) (by omega)]at I
   refine(Int.fdiv_fmod_unique h).2 ?_;have E:¬n<0:=by omega
   by_cases F:m<0
   . rw[Xck (a:=m) (by omega)]at I
     have O:r=0:=by
       rcases h0 with h0|h0
       . simp[E,F]at h0
       . exact h0
     simp only[E,F,decide_true,decide_false,show(!(true == false))=true from rfl,if_true,Xbj,if_false];have:n* -(q:Int)= -(n*q):=by grind
     exact⟨by rw[this];omega,by omega,by omega⟩
   . rw[Xcl (a:=m) (by omega)]at I
     simp only[E,F,decide_false,Xbt,Xce,Xbj,if_false];exact⟨by omega,by omega,by omega⟩
theorem NI{m n:Nat}(E:m<cO)(F:n<cO)(h:n≠0):Bw (dec m) (dec n)=(dec (m/n),dec (m%n),0):=by unfold Bw;rw[if_pos (zO E F),bW,bW,if_neg h]
theorem Lp(a b:ByteArray)(ha:a.size<=1048576)(F:b.size<=1048576):PC prog 57 [str a,str b] (.tup [str (Ej a b).1,str (Ej a b).2.1,int (Ej a b).2.2]):=by
 refine pcd Tryz.func57 ?_;unfold Tryz.f57;simp only[gdS];simp only[go_sem];refine PC.use (BR a b ha F) ?_;simp only[go_sem];refine aB (fun h=>?_) (fun h=>?_)
 . have h:lR a b≠0:=by simpa using h
   simp only[go_sem];rw[show Ej a b=(emp,emp,lR a b)from if_neg h];exact .refl _
 have h:lR a b=0:=by simpa using h
 obtain⟨m,n,rfl,rfl,hm,hn⟩:=vI h;have e:Ej (zed m) (zed n)=if n=0 then(emp,emp,10)else(zed (m.fdiv n),zed (m.fmod n),0):=by unfold Ej;rw[if_pos h,dM,dM]
 rw[e,LA h];simp only[go_sem];obtain⟨A,hA⟩:∃A,kU (decide (m<0)) m.natAbs=A:=⟨_,rfl⟩;obtain⟨B,hB⟩:∃B,kU (decide (n<0)) n.natAbs=B:=⟨_,rfl⟩;have Z:A.length=2:=by rw[<-hA];rfl
 have ab:B.length=2:=by rw[<-hB];rfl
 refine Bh (fun X H'=>∃i j,X 9=.op i 0 0/\X 10=.op j 0 0/\H' i=some (CQ A)/\H' j=some (CQ B)) ?_ fun K hK=>?_
 rotate_left
 . refine Cn [] (.q 0 (.q 1 (.q 2 (.q 3 (.q 4 (.q 5 (.a2 6 (.a1 7 (.a1 8 (.a1 9 .nil))) 7 (.a1 6 (.a1 8 (.a1 9 .nil)))))))))) (by simp) (by kernel_rfl) fun Hp Hr _ hq _ _=>?_
   simp only[go_sem,Xac,List.length_nil,hA,hB]
   repeat (refine⟨by first|decide|omega,?_⟩)
   refine qO ?_ ?_
   . simp only[go_sem]
     refine aN fun i hi=>?_
     simp only[go_sem];refine aN fun j hj=>?_
     have R:=aA Hr i (some (zN));have Y:=aO R hj;have I:=lF (r':=zN) R hj;have J:=aA (aI Hr i (some (zN))) j (some (zN));simp only[go_sem];refine aM (r:=zN) I (by simp[Z]) ?_;simp only[go_sem];refine aM (r:=zN) (by rw[aD _ _ _ _ Y.symm];exact J) (by simp[ab]) ?_;simp only[go_sem];refine jX fun _ Hm _ hm=>hK _ _ ⟨i,j,by simp only[go_sem],by simp only[go_sem],?_,?_⟩
     . rw[hm i (by simp),aD _ _ _ _ Y,aA];exact congrArg some (BV Z)
     . rw[hm j (by simp),aA];exact congrArg some (BV ab)
   . simp only[go_sem]
     refine aN fun j hj=>?_
     simp only[go_sem];refine aN fun i hi=>?_
     have R:=aA Hr j (some (zN));have Y:=(aO R hi).symm;have J:=lF (r':=zN) R hi;have I:=aA (aI Hr j (some (zN))) i (some (zN));simp only[go_sem];refine aM (r:=zN) I (by simp[Z]) ?_;simp only[go_sem];refine aM (r:=zN) (by rw[aD _ _ _ _ Y.symm];exact J) (by simp[ab]) ?_;simp only[go_sem];refine jX fun _ Hm _ hm=>hK _ _ ⟨i,j,by simp only[go_sem],by simp only[go_sem],?_,?_⟩
     . rw[hm i (by simp),aD _ _ _ _ Y,aA];exact congrArg some (BV Z)
     . rw[hm j (by simp),aA];exact congrArg some (BV ab)
 rintro ρ H ⟨i,j,O,E,I,J⟩;subst hA hB;simp only[go_sem,O,E,I,J,qA];refine aB (fun ad=>?_) (fun ad=>?_)
 . have h0 : n = 0 := by
     have:=rC.1 (nJ.1 ad);omega
   simp only[go_sem];rw[if_pos h0];exact .refl _
 have h0:n≠0:=fun e=>by
   subst e;exact pJ.1 ad rfl
 have ai:n.natAbs≠0:=by omega
 rw[if_neg h0];simp only[go_sem,O,E,I,J];refine PC.use (aoI (dec m.natAbs) (dec n.natAbs) (dX hm) (dX hn)) ?_;rw[NI hm hn ai];simp only[go_sem,O,E,I,J];refine aB (fun F=>by cases F) (fun _=>?_);simp only[go_sem,O,E,I,J,qA];have ak:=Nat.mod_add_div m.natAbs n.natAbs;have aj:=Nat.mod_lt m.natAbs (show 0<n.natAbs by omega);refine bH (fun X H'=>∃q r:Nat,X 9=.op i 0 0/\X 10=.op j 0 0/\H' i=some (CQ (kU (decide (m<0)) m.natAbs))/\H' j=some (CQ (kU (decide (n<0)) n.natAbs))/\X 11=str (dec q)/\X 12=str (dec r)/\q<cO/\r<cO/\sg (!(decide (m<0) == decide (n<0))) q=m.fdiv n/\sg (decide (n<0)) r=m.fmod n) ?_ fun K hK=>aB (fun F=>?_) (fun F=>?_)
 rotate_left
 . have F : decide (m < 0) ≠ decide (n < 0) /\ m.natAbs % n.natAbs ≠ 0 := by
     simp only[Xam,Xbh,beq_eq_false_iff_ne,ne_eq,pJ]at F;exact⟨F.1,fun e=>F.2 (by rw[e])⟩
   obtain⟨f1,f2⟩:=OG h0 F.1 F.2;have ac:m.natAbs/n.natAbs+1<cO:=by
     have h2:2<=n.natAbs:=by omega
     have h3:2*(m.natAbs/n.natAbs)<=n.natAbs*(m.natAbs/n.natAbs):=Xbm _ h2;omega
   have aa:m.natAbs/n.natAbs<cO:=by omega
   have af:(1:Nat)<cO:=Xbb (Nat.le_add_left 1 _) ac;have ah:m.natAbs%n.natAbs<cO:=by omega
   generalize hQ:m.natAbs/n.natAbs=q at *;generalize hR:m.natAbs%n.natAbs=r at *;simp only[go_sem,O,E];rw[BA];refine PC.use (Zc (dec q) (dec 1) (dX aa) (dX af)) ?_;rw[LR aa af,yM ac];simp only[go_sem,O,E,I,J];refine aB (fun F=>by cases F) (fun _=>?_);simp only[go_sem,O,E,I,J];refine PC.use (WN (dec n.natAbs) (dec r) (dX hn) (dX ah)) ?_;rw[NN hn ah (by omega),yM (show n.natAbs-r<cO by omega)];simp only[go_sem,O,E,I,J];refine aB (fun F=>by cases F) (fun _=>?_);simp only[go_sem,O,E];refine hK _ _ ⟨q+1,n.natAbs-r,by simp only[go_sem,O],by simp only[go_sem,E],I,J,by simp only[go_sem],by simp only[go_sem],ac,by omega,?_,f2.symm⟩;rw[f1];unfold sg;rw[if_pos (by simpa using F.1)]
 . have F : decide (m < 0) = decide (n < 0) \/ m.natAbs % n.natAbs = 0 := by
     by_cases h1:decide (m<0)=decide (n<0)
     . exact .inl h1
     . refine .inr ?_
       have h2:(!(decide (m<0) == decide (n<0)))=true:=by simpa using h1
       rw[h2,Xba,Xcb]at F;exact rC.1 (nJ.1 F)
   obtain⟨f1,f2⟩:=Vs h0 F;have aa:m.natAbs/n.natAbs<cO:=Xbb (Xde _ _) hm;simp only[go_sem,O,E];exact hK _ _ ⟨_,_,by simp only[go_sem,O],by simp only[go_sem,E],I,J,by simp only[go_sem],by simp only[go_sem],aa,by omega,f1.symm,f2.symm⟩
 clear O E I J;rintro ρ H ⟨q,r,O,E,I,J,ag,ae,hq,hr,f1,f2⟩;simp only[go_sem];refine fV (by rfl) (by kernel_rfl) ?_;simp only[go_sem,O,E,ag,ae,I,J];refine⟨_,(SF _ q (dX hq)).q rfl,?_⟩;simp only[go_sem,O,E,ag,ae,I,J];refine⟨_,(SF _ r (dX hr)).q rfl,?_⟩;simp only[go_sem,f1,f2];exact .refl _
end Go.Proofs.YtdlijlecpopadaaGreatDoor.Nu
end
section
namespace Go.Proofs.YtdlijlecpopadaaGreatDoor.Nu
open Go.Proofs.Tryz(prog)
open Go.Aw Go.Aw.D Go.Proofs Ty Go.Nu
open Go.RowKit (Below)
theorem CM:∀l:List UInt8,Lib.indexByte l 47=if l.any (· == dL)=true then((l.takeWhile (· != dL)).length:Int)else -1
 | []=>rfl
 | c::l=>by
   have ih:=CM l;unfold Lib.indexByte;by_cases h:c=dL
   . subst h;rfl
   . have h1:(c == (47:UInt8))=false:=by simpa[dL]using h
     have F:(c == dL)=false:=by simpa using h
     have E:(c != dL)=true:=by simpa using h
     rw[h1,ih,List.any_cons,F,List.takeWhile_cons,E];simp only[Xbj,if_false,Xbu,if_true];split
     . rw[if_neg (by simp)]
       simp
     . rfl
theorem EI{α:Type}(p:α->Bool):∀l:List α,l.take (l.takeWhile p).length=l.takeWhile p
 | []=>rfl
 | a::l=>by
   rw[List.takeWhile_cons];split
   . rw[Xac,List.take_succ_cons,EI p l]
   . rfl
theorem Ta{α:Type}(p:α->Bool):∀l:List α,l.drop ((l.takeWhile p).length+1)=(l.dropWhile p).drop 1
 | []=>rfl
 | a::l=>by
   rw[List.takeWhile_cons,List.dropWhile_cons];split
   . rw[Xac,List.drop_succ_cons,Ta p l]
   . rfl
theorem aAp{l:List UInt8}(h:l.any (· == dL)=true):(l.takeWhile (· != dL)).length<l.length:=by
 rcases Xbe (l.takeWhile (· != dL)).length l.length with h1|h1
 . exact h1
 . exfalso
   have I:=EI (· != dL) l;rw[Xaw h1]at I;obtain⟨c,F,E⟩:=Xau.1 h;rw[I]at F;have:=Do F;simp at this E;exact this E
def Xp(s:ByteArray):Int:=if kK s=true then(((bl s).takeWhile (· != dL)).length:Int)else -1
theorem ZJ(s:ByteArray):PC prog 183 [str s,str ⟨#[47]⟩] (int (Xp s)):=by
 refine PC.lib (a:=[.string s,.string ⟨#[47]⟩]) (v:=.int .i64 (Xp s)) (fun S w=>rfl) fun w _=>(Tryz.stringslite_Index_one s 47 w).mono fun e w' ⟨F,E⟩=>?_
 rw[E];exact⟨F.trans (by rw[show s.data.toList=bl s from rfl,CM];rfl),Below.refl _ _⟩
theorem Oh(s:ByteArray):PC prog 84 [str s,str ⟨#[47]⟩] (boo (kK s)):=by
 refine PC.lib (a:=[.string s,.string ⟨#[47]⟩]) (v:=.bool (kK s)) (fun S w=>rfl) fun w _=>(Tryz.strings_Contains_one s 47 w).mono fun e w' ⟨F,E⟩=>?_
 rw[E];refine⟨F.trans ?_,Below.refl _ _⟩;rw[show s.data.toList=bl s from rfl,CM];unfold kK;cases(bl s).any (· == dL) <;> simp
def KC(s:ByteArray):ByteArray:=⟨(((bl s).dropWhile (· != dL)).drop 1).toArray⟩
theorem Zz(s:ByteArray)(h:s.size<=1048576):PC prog 182 [str s,str ⟨#[47]⟩] (.tup (if kK s=true then[str (gU s),str (KC s),boo true]else[str s,str emp,boo false])):=by
 refine pcd Tryz.func182 ?_;unfold Tryz.f182;simp only[gdS];simp only[go_sem];refine PC.use (ZJ s) ?_;simp only[go_sem];have I:=cF s;refine aB (fun E=>?_) (fun E=>?_)
 . have F : kK s = true := by
     have E:=of_decide_eq_true E;unfold Xp at E;split at E
     . assumption
     . omega
   have O:=aAp F;rw[if_pos F,show Xp s=(((bl s).takeWhile (· != dL)).length:Int)from if_pos F];simp only[go_sem];refine fV (by rfl) (by kernel_rfl) ?_;simp only[go_sem];have X:s.extract 0 ((bl s).takeWhile (· != dL)).length=gU s:=lB (by rw[fQ,Xbr,EI];exact(jE _).symm);have Y:s.extract (((bl s).takeWhile (· != dL)).length+1) s.size=KC s:=lB (by rw[fQ,<-I,Xaf,Ta];exact(jE _).symm);refine⟨⟨by omega,by omega⟩,?_⟩;have J:IntKind.i64.wrap ((((bl s).takeWhile (· != dL)).length:Int)+((#[47]:Array UInt8).size:Nat))=((((bl s).takeWhile (· != dL)).length+1:Nat):Int):=aS (by omega);simp only[J,Xan,X,Y];refine⟨⟨by omega,by omega⟩,?_⟩;exact .refl _
 . have F : ¬ kK s = true := fun F => by
     have E:=of_decide_eq_false E;unfold Xp at E;rw[if_pos F]at E;omega
   rw[if_neg F];simp only[go_sem];exact .refl _
theorem MT{s:ByteArray}(h:kK s=false):gU s=s:=by
 refine lB ?_;unfold gU;rw[jE];refine wL fun c E=>?_
 unfold kK at h;rw[Xby]at h;have:=h c E;simpa using this
theorem auE(s:ByteArray)(h:s.size<=1048576):PC prog 142 [str s,str ⟨#[47]⟩] (.tup (if kK s=true then[str (gU s),str (KC s),boo true]else[str s,str emp,boo false])):=by
 by_cases E:kK s=true
 . have:=Zz s h
   rw[if_pos E]at this |-;refine pcd Tryz.func142 ?_;unfold Tryz.f142;simp only[gdS];simp only[go_sem];refine PC.use this ?_;simp only[go_sem];exact .refl _
 . have:=Zz s h
   rw[if_neg E]at this |-;refine pcd Tryz.func142 ?_;unfold Tryz.f142;simp only[gdS];simp only[go_sem];refine PC.use this ?_;simp only[go_sem];exact .refl _
theorem Lq(s:ByteArray)(h:s.size<=1048576):PC prog 81 [str s] (.tup [str (gU s),str (gJ s)]):=by
 have F:=auE s h;by_cases E:kK s=true
 . rw[if_pos E]at F
   refine pcd Tryz.func81 ?_;unfold Tryz.f81;simp only[gdS];simp only[go_sem];refine PC.use F ?_;simp only[go_sem];refine aB (fun I=>by cases I) (fun _=>?_);simp only[go_sem];rw[show gJ s=KC s from if_pos E];exact .refl _
 . rw[if_neg E]at F
   refine pcd Tryz.func81 ?_;unfold Tryz.f81;simp only[gdS];simp only[go_sem];refine PC.use F ?_;simp only[go_sem];refine aB (fun _=>?_) (fun I=>by cases I);simp only[go_sem];rw[show gJ s=dec 1 from if_neg E,MT (by simpa using E),<-BA];exact .refl _
theorem MJ(s:ByteArray):PC prog 83 [str s] (int (dS s).size):=by
 refine pcd Tryz.func83 ?_;unfold Tryz.f83;simp only[gdS];simp only[go_sem];refine PC.use (yX s) ?_;simp only[go_sem];exact .refl _
theorem Jc(s:ByteArray):(gU s).size<=s.size:=by
 rw[<-cF,<-cF,show bl (gU s)=(bl s).takeWhile (· != dL)from jE _,<-EI];simp;omega
theorem IE(s:ByteArray):(gJ s).size<=max s.size 1:=by
 unfold gJ;split
 . rw[<-cF,<-cF,jE,Xbl]
   have:((bl s).dropWhile (· != dL)).length<=(bl s).length:=(List.dropWhile_suffix _).length_le;omega
 . rw[<-BA];exact Nat.le_max_right _ _
theorem PD:dK (dec 1)=true:=lC 1
theorem Ga{s:ByteArray}(h:dK s=true):dS s=s:=by rw[<-jC h,LL]
theorem Iq{s:ByteArray}(h:kK s=false):gJ s=dec 1:=if_neg (by rw[h];simp)
theorem FE{s:ByteArray}(E:(!fZ (gU s)||decide (((dS (gU s)).size:Int)>4096)||decide (((dS (gJ s)).size:Int)>4096))=true):cV s=false:=by
 unfold cV;rw[Xbv];simp only[ne_eq,Xam,decide_eq_true_eq];rintro⟨⟨⟨⟨h1,F⟩,J⟩,I⟩,_⟩;rw[h1,Ga F]at E;simp only[Xce,Xbu,Xbc,decide_eq_true_eq]at E;omega
theorem zS{s:ByteArray}(E:(!fZ (gU s)||decide (((dS (gU s)).size:Int)>4096)||decide (((dS (gJ s)).size:Int)>4096))=false)(J:dK (gJ s)=true):
   (fZ (gU s)&&dK (gJ s)&&decide ((dS (gU s)).size<=4096)&&decide ((gJ s).size<=4096))=true/\fZ (gU s)=true/\(dS (gU s)).size<=4096/\(gJ s).size<=4096:=by
 simp only[Xai,Xcb,decide_eq_false_iff_not]at E;rw[Ga J]at E;obtain⟨⟨h1,I⟩,F⟩:=E;have I:(dS (gU s)).size<=4096:=by omega
 have F:(gJ s).size<=4096:=by omega
 refine⟨?_,h1,I,F⟩;rw[h1,J];simp[I,F]
theorem CD(s:ByteArray)(h:s.size<=1048576):PC prog 44 [str s] (boo (cV s)):=by
 have hn:=Jc s;have hd:=IE s;have h1:(1:Nat)<=1048576:=by omega
 have ab:=KQ (gU s);have aa:=KQ (gJ s);refine pcd Tryz.func44 ?_;unfold Tryz.f44;simp only[gdS];simp only[go_sem];refine PC.use (Lq s h) ?_;simp only[go_sem];refine PC.use (XA (gU s) (by omega)) ?_;simp only[go_sem];refine⟨_,fun _=>(MJ (gU s)).q rfl,?_⟩;simp only[go_sem];refine⟨_,fun _=>(MJ (gJ s)).q rfl,?_⟩;simp only[go_sem];refine aB (fun I=>?_) (fun I=>?_)
 . simp only[go_sem]
   exact cB (FE I).symm
 simp only[go_sem];refine PC.use (Oh s) ?_;simp only[go_sem];refine aB (fun J=>?_) (fun J=>?_)
 . simp only[go_sem]
   refine cB ?_;have h0:kK s=false:=by simpa using J
   have F:dK (gJ s)=true:=by rw[Iq h0];exact PD
   unfold cV;rw[(zS I F).1,h0];rfl
 have h0:kK s=true:=by simpa using J
 simp only[go_sem];refine PC.use (B7 (gJ s) (by omega)) ?_;simp only[go_sem,qA,GF];refine aB (fun E=>?_) (fun E=>?_)
 . simp only[go_sem]
   refine cB ?_;unfold cV;rw[h0];simp only[Xbc,Xbh]at E;rcases E with((E|E)|E)|E <;> simp[E]
 simp only[Xai,Xcb]at E;obtain⟨⟨⟨F,X⟩,h4⟩,h5⟩:=E;obtain⟨f1,Y,f3,O⟩:=zS I F;simp only[go_sem];refine PC.use (yX (gU s)) ?_;simp only[go_sem];refine PC.use (abZ (dS (gU s)) (gJ s) (by omega) (by omega)) ?_;simp only[go_sem,GF];refine cB ?_;have Z:=CI Y;have v0:eH (gJ s)≠0:=fun e=>pJ.1 X (by rw[<-jC F,e])
 have v1:eH (gJ s)<cO:=(vW F).1 O;have e:Av (dS (gU s)) (gJ s)=(dec (Nat.gcd (eH (dS (gU s))) (eH (gJ s))),0):=by
   unfold Av;rw[if_pos (EM Z F f3 O),yM (Xbb (Nat.gcd_le_right _ (by omega)) v1)]
 have ev:(kL (gU s)).natAbs=eH (dS (gU s)):=by unfold kL;split <;> omega
 rw[e];unfold cV;rw[f1,h0,X,h4,h5,ev];simp only[Xbt,Xba,Xce,Xcr,Xbu];rw[Xar,nJ,rC,Xas]
theorem AF(n:Int)(h0: -9223372036854775808<=n)(h1:n<=9223372036854775807):PC prog 26 [int n] (str (zed n)):=by
 refine pcd Tryz.func26 ?_;unfold Tryz.f26;simp only[gdS];simp only[go_sem];refine PC.use (arP n h0 h1) ?_;simp only[go_sem];exact .refl _
def PW(a b:ByteArray):List AV:=if(cV a&&cV b)=true then[str (gU a),str (gJ a),str (gU b),str (gJ b),int 0]else[str emp,str emp,str emp,str emp,int 3]
theorem XZ(a b:ByteArray)(F:a.size<=1048576)(I:b.size<=1048576):PC prog 56 [str a,str b] (.tup (PW a b)):=by
 refine pcd Tryz.func56 ?_;unfold Tryz.f56;simp only[gdS];simp only[go_sem];refine PC.use (CD a F) ?_;simp only[go_sem];refine⟨_,fun _=>(CD b I).q rfl,?_⟩;simp only[go_sem];refine aB (fun E=>?_) (fun E=>?_)
 . simp only[go_sem]
   rw[show PW a b=[str emp,str emp,str emp,str emp,int 3]from if_neg (by rw[Xch,<-Xbh,Bool.not_and];exact E)];exact .refl _
 . simp only[go_sem]
   refine PC.use (Lq a F) ?_;simp only[go_sem];refine PC.use (Lq b I) ?_;simp only[go_sem];rw[show PW a b=_ from if_pos (by rw[<-Xcb,Bool.not_and];exact E)];exact .refl _
theorem alF(n:Int)(d:Nat)(J:d≠0)(O:n.natAbs<cO)(E:d<cO):PC prog 118 [str (zed n),str (dec d)] (.tup [str (oE (mkRat n d)),int 0]):=by
 have X:=Vc (n:=n) J E;have aa:=Ug (n:=n) J;have Y:∀{m:Int},m.natAbs<cO->(zed m).size<=1048576:=fun {m} hm=>by
   have:=(sF m).2 hm;unfold dS at this;split at this
   . rw[<-cF,jE,Xbl]at this
     rw[<-cF];omega
   . omega
 have I:=MI J O E;have eg:Ej (zed n) (dec (Nat.gcd n.natAbs d))=(zed (mkRat n d).num,zed (n.fmod (Nat.gcd n.natAbs d:Nat)),0):=by
   unfold Ej;rw[<-gW,if_pos (vC O (by rw[Xbw];exact X)),dM,dM,if_neg (by omega),Tr J]
 have Z:Ej (dec d) (dec (Nat.gcd n.natAbs d))=(dec (mkRat n d).den,zed ((d:Int).fmod (Nat.gcd n.natAbs d:Nat)),0):=by
   unfold Ej;rw[<-gW,<-gW,if_pos (vC (by rw[Xbw];exact E) (by rw[Xbw];exact X)),dM,dM,if_neg (by omega),SQ J,gW]
 refine pcd Tryz.func118 ?_;unfold Tryz.f118;simp only[gdS];simp only[go_sem];refine PC.use (yX (zed n)) ?_;rw[jY];simp only[go_sem];refine PC.use (abZ (dec n.natAbs) (dec d) (dX O) (dX E)) ?_;rw[show Av (dec n.natAbs) (dec d)=(dec (Nat.gcd n.natAbs d),0)by unfold Av;rw[if_pos (zO O E),bW,bW,yM X]];simp only[go_sem];refine aB (fun F=>by cases F) (fun _=>?_);simp only[go_sem];refine PC.use (Lp (zed n) (dec (Nat.gcd n.natAbs d)) (Y O) (dX X)) ?_;rw[eg];simp only[go_sem];refine aB (fun F=>by cases F) (fun _=>?_);simp only[go_sem];refine PC.use (Lp (dec d) (dec (Nat.gcd n.natAbs d)) (dX E) (dX X)) ?_;rw[Z];simp only[go_sem];refine aB (fun F=>by cases F) (fun _=>?_);simp only[go_sem,GF];generalize mkRat n d=x at *;refine aB (fun F=>?_) (fun F=>?_)
 . have h1:x.den=1:=rC.1 (nJ.1 F)
   simp only[go_sem];rw[show oE x=zed x.num from if_pos h1];exact .refl _
 . have h1:x.den≠1:=fun e=>pJ.1 F (by rw[e])
   simp only[go_sem];have z1:=Y I.1;have z2:=dX I.2;have z3:(zed x.num++slB).size=(zed x.num).size+1:=by rw[ByteArray.size_append];rfl
   refine⟨by show((zed x.num).size+(1:Nat):Int)<=9223372036854775807;omega,?_⟩;refine⟨by show(((zed x.num).size+1+(dec x.den).size:Nat):Int)<=9223372036854775807;omega,?_⟩;rw[show oE x=zed x.num++slB++dec x.den from if_neg h1];exact .refl _
end Go.Proofs.YtdlijlecpopadaaGreatDoor.Nu
end
section
namespace Go.Proofs.YtdlijlecpopadaaGreatDoor.Nu
open Go.Proofs.Tryz(prog)
open Go.Aw Go.Aw.D Go.Proofs Ty Go.Nu
abbrev Pr:=ByteArray×ByteArray
def AO(p:Pr):List AV:=[str p.1,str p.2]
theorem JG(p:Pr):(AO p).length=2:=(rfl)
theorem aiY(p:Pr):(AO p).getD 0 .any=str p.1:=(rfl)
theorem adE(p:Pr):(AO p).getD 1 .any=str p.2:=(rfl)
theorem U1(p:Pr):(AO p).take 2=AO p:=(rfl)
attribute [go_sem] JG aiY adE U1
def prA(p:Pr):List AV:=[str (zH p.1 p.2).1]
def prE:List Pr->Int
 | []=>0
 | p::l=>if(zH p.1 p.2).2≠0 then(zH p.1 p.2).2 else prE l
theorem Mh:∀{l:List Pr},(∀p∈l,(zH p.1 p.2).2=0)->prE l=0
 | [],_=>rfl
 | p::l,h=>by unfold prE;rw[if_neg (by simp[h p (by simp)])];exact Mh fun q E=>h q (by simp[E])
theorem abL:∀{l:List Pr} {k:Nat} {p:Pr},l[k]?=some p->(∀q∈l.take k,(zH q.1 q.2).2=0)->(zH p.1 p.2).2≠0->prE l=(zH p.1 p.2).2
 | [],k,p,h,_,_=>by simp at h
 | a::l,0,p,h,_,h2=>by
   simp at h;subst h;unfold prE;rw[if_pos h2]
 | a::l,k+1,p,h,h1,h2=>by
   unfold prE;rw[if_neg (by simp[h1 a (by simp)])];exact abL (k:=k) (by simpa using h) (fun q E=>h1 q (by simp[E])) h2
def adN(l:List (List AV)):Row:=⟨9,1,l⟩
theorem E9(l:List Pr)(hl:l.length<=1048576)(hs:∀p∈l,p.1.size<=1048576/\p.2.size<=1048576):PC prog 117 [.sl (l.map AO)] (.tup [.sl (if prE l=0 then l.map prA else[]),int (prE l)]):=by
 refine pcb (fun t=>t == 6||t == 11) Tryz.func117 ?_;unfold Tryz.f117;simp only[gdS];simp only[go_sem];refine⟨⟨⟨by omega,by omega⟩,by omega⟩,?_⟩;refine aN fun j hj=>?_
 simp only[go_sem];refine⟨fun ρ H=>∃(k j:Nat),k<=l.length/\ρ 12=.sl (l.map AO)/\ρ 13=int l.length/\ρ 4=.os j/\ρ 14=int k/\H j=some (adN ((l.take k).map prA))/\∀p∈l.take k,(zH p.1 p.2).2=0,fun ρ _=>l.length-aX (ρ 14),
   ⟨0,j,Xab _,by simp only[go_sem],by simp only[go_sem,Xaa],by simp only[go_sem],by simp only[go_sem];rfl,aA _ _ _,by simp⟩,?_⟩
 clear hj j;rintro ρ H ⟨k,j,hk,F,E,X,I,Rj,hz⟩;simp only[go_sem,F,E,X,I];refine aB (fun J=>?_) (fun Z=>?_)
 . have J:=ltB J
   obtain⟨p,O⟩:=aQ J;have b1:=inB J;have ab:=hs p (Xad O);simp only[go_sem,F,E,X,I,aH O,b1];refine aN fun i hi=>?_
   have aa:j≠i:=aO Rj hi;simp only[go_sem,F,E,X,I];refine aM (aA _ _ _) (by simp[JG]) ?_;generalize hG:aI (aI _ i _) i _=HG;have Ri:HG i=some (⟨189,2,[AO p]⟩:Row):=by rw[<-hG,aA];rfl
   have ac:HG j=some (adN ((l.take k).map prA)):=by rw[<-hG,aD _ _ _ _ aa,aD _ _ _ _ aa];exact Rj
   clear hG hi Rj;simp only[go_sem,F,E,X,I,Ri]
   repeat (refine⟨by first|decide|omega,?_⟩)
   refine PC.use (aoS p.1 p.2 ab.1 ab.2) ?_;simp only[go_sem,F,E,X,I];refine aB (fun Y=>?_) (fun Y=>?_)
   . have Y:(zH p.1 p.2).2≠0:=by simpa using Y
     simp only[go_sem];have e:prE l=(zH p.1 p.2).2:=abL O hz Y;rw[e,if_neg Y];exact .refl _
   . have Y:(zH p.1 p.2).2=0:=by simpa using Y
     simp only[go_sem,F,E,X,I];refine bG ac ⟨rfl,rfl⟩ ⟨rfl,trivial⟩ (by simp only[adN,Xaa,Xax,Xac,List.length_nil];omega) (fun j' ad=>?_);simp only[go_sem,F,E,X,I,aS (show k<=4611686018427387904 by omega)];refine⟨⟨k+1,j',J,rfl,rfl,?_,?_⟩,by simp only[aG];omega⟩
     . rw[aA]
       simp only[adN,bX O,Xat,Xbk,List.map_nil];rfl
     . intro q hq
       rw[bX O]at hq;rcases Xaq.1 hq with hq|hq
       . exact hz q hq
       . rw[Xak.1 hq];exact Y
 . have Z:=geB hk Z
   subst Z;rw[Xaf]at Rj hz;simp only[go_sem,X,Rj];have e:prE l=0:=Mh hz;rw[if_pos e,e];exact .tup _ _ (.cons _ _ _ _ (.row _ _ _ Rj (ConvE.refl _)) (ConvL.refl _))
theorem Fg{m n:Int}(E:m.natAbs<cO)(F:n.natAbs<cO):zH (zed m) (zed n)=szZ (m*n):=by unfold zH;rw[if_pos (vC E F),dM,dM]
theorem ZN{m n:Int}(E:m.natAbs<cO)(F:n.natAbs<cO):UV (zed m) (zed n)=szZ (m+n):=by unfold UV;rw[if_pos (vC E F),dM,dM]
theorem Xh{m n:Int}(E:m.natAbs<cO)(F:n.natAbs<cO):UD (zed m) (zed n)=szZ (m-n):=by unfold UD;rw[if_pos (vC E F),dM,dM]
theorem Lg{n:Int}(h:rB n=false):szZ n=(zed n,0):=if_pos (qN.1 h)
theorem EL{n:Int}(h:rB n=true):szZ n=(emp,4):=if_neg (fun E=>by rw[qN.2 E]at h;cases h)
theorem jF{m:Int}(E:m.natAbs<cO):(zed m).size<=1048576:=by
 have:=(sF m).2 E;unfold dS at this;split at this
 . rw[<-cF,jE,Xbl]at this
   rw[<-cF];omega
 . omega
theorem L7{a b c d:Int}(F:a.natAbs<cO)(J:b.natAbs<cO)(I:c.natAbs<cO)(E:d.natAbs<cO):
   PC prog 117 [.sl [[str (zed a),str (zed b)],[str (zed c),str (zed d)]]] (if(rB (a*b)||rB (c*d))=true then .tup [.sl [],int 4]else .tup [.sl [[str (zed (a*b))],[str (zed (c*d))]],int 0]):=by
 have:=E9 [(zed a,zed b),(zed c,zed d)] (by simp) (by simp[jF,F,J,I,E]);simp only[prE,Fg F J,Fg I E,Xbk,List.map_nil,prA,AO]at this;cases h1:rB (a*b)with
 | true=>rw[EL h1]at this;simpa using this
 | false=>
   rw[Lg h1]at this;cases O:rB (c*d)with
   | true=>rw[EL O]at this;simpa using this
   | false=>rw[Lg O]at this;simpa using this
theorem O8{a b:Int}(E:a.natAbs<cO)(F:b.natAbs<cO):
   PC prog 117 [.sl [[str (zed a),str (zed b)]]] (if rB (a*b)=true then .tup [.sl [],int 4]else .tup [.sl [[str (zed (a*b))]],int 0]):=by
 have:=E9 [(zed a,zed b)] (by simp) (by simp[jF,E,F]);simp only[prE,Fg E F,Xbk,List.map_nil,prA,AO]at this;cases h1:rB (a*b)with
 | true=>rw[EL h1]at this;simpa using this
 | false=>rw[Lg h1]at this;simpa using this
def fv(g:FuncId):AV:=.v (.func (.func g) #[] #[])
def TX(op:Int->Int->Int)(x y:Rat):ByteArray×Int:=
 if(rB (x.num*y.den)||rB (y.num*x.den)||rB (op (x.num*y.den) (y.num*x.den))||rB (x.den*y.den))=true then(emp,4)else(oE (mkRat (op (x.num*y.den) (y.num*x.den)) (x.den*y.den)),0)
def DC(op:Int->Int->Int)(a b:ByteArray):ByteArray×Int:=if(cV a&&cV b)=true then TX op (jI a) (jI b)else(emp,3)
theorem Ii(g:FuncId)(op:Int->Int->Int)(ab:aE prog g=true)(hg:∀m n:Int,m.natAbs<cO->n.natAbs<cO->PC prog g [str (zed m),str (zed n)] (.tup [str (szZ (op m n)).1,int (szZ (op m n)).2]))
   (a b:ByteArray) (ha:a.size<=1048576) (F:b.size<=1048576):PC prog 59 [str a,str b,fv g] (.tup [str (DC op a b).1,int (DC op a b).2]):=by
 have E:=XZ a b ha F;by_cases Y:(cV a&&cV b)=true
 rotate_left
 . rw[show PW a b=_ from if_neg Y]at E
   rw[show DC op a b=(emp,3)from if_neg Y];unfold fv;refine pcd Tryz.func59 ?_;unfold Tryz.f59;simp only[gdS];simp only[go_sem];refine PC.use E ?_;simp only[go_sem];refine aB (fun _=>?_) (fun F=>by cases F);simp only[go_sem];exact .refl _
 rw[show PW a b=_ from if_pos Y]at E;rw[show DC op a b=_ from if_pos Y];simp only[Xam]at Y;obtain⟨x,rfl,hx,e1,e2⟩:=lV Y.1;obtain⟨y,rfl,hy,e3,e4⟩:=lV Y.2;rw[e1,e2,e3,e4]at E;rw[kR,kR];have xd:((x.den:Int)).natAbs<cO:=by rw[Xbw];exact hx.2
 have yd:((y.den:Int)).natAbs<cO:=by rw[Xbw];exact hy.2
 have Z:=L7 hx.1 yd hy.1 xd;have p1:=O8 xd yd;rw[gW,gW]at Z p1;unfold fv;refine pcd Tryz.func59 ?_;unfold Tryz.f59;simp only[gdS];simp only[go_sem];refine PC.use E ?_;simp only[go_sem];refine aB (fun F=>by cases F) (fun _=>?_);simp only[go_sem];unfold TX;cases J:(rB (x.num*y.den)||rB (y.num*x.den))with
 | true=>
   rw[J,if_pos rfl]at Z;refine PC.use Z ?_;simp only[go_sem];refine aB (fun _=>?_) (fun F=>by cases F);exact .refl _
 | false=>
   rw[J]at Z;simp only[Xbj,if_false]at Z;refine PC.use Z ?_;simp only[go_sem];refine aB (fun F=>by cases F) (fun _=>?_);simp only[go_sem];have I:=J;simp only[Xai]at I;have aa:=hg _ _ (qN.1 I.1) (qN.1 I.2);refine fV (by rfl) (by kernel_rfl) ?_;simp only[go_sem,Xac,List.length_nil]
   repeat (refine⟨by first|decide|omega,?_⟩)
   refine⟨_,aa.q rfl,?_⟩;simp only[go_sem];generalize hN:op (x.num*y.den) (y.num*x.den)=N;cases X:rB N with
   | true=>
     rw[EL X];refine aB (fun _=>?_) (fun F=>by cases F);simp only[go_sem,J,Xbu,Bool.true_or,if_true];exact .refl _
   | false=>
     rw[Lg X];refine aB (fun F=>by cases F) (fun _=>?_);simp only[go_sem];cases O:rB ((x.den:Int)*y.den)with
     | true=>
       rw[O,if_pos rfl]at p1;refine PC.use p1 ?_;simp only[go_sem];refine aB (fun _=>?_) (fun F=>by cases F);simp only[go_sem,Bool.or_true,if_true];exact .refl _
     | false=>
       rw[O]at p1;simp only[Xbj,if_false]at p1;refine PC.use p1 ?_;simp only[go_sem];refine aB (fun F=>by cases F) (fun _=>?_);simp only[go_sem,Xac,List.length_nil]
       repeat (refine⟨by first|decide|omega,?_⟩)
       have hD:x.den*y.den<cO:=by rw[<-Ku];exact qN.1 O
       have:=alF N (x.den*y.den) (PT x y) (qN.1 X) hD;rw[<-gW,Int.natCast_mul]at this;refine PC.use this ?_;simp only[go_sem];exact .refl _
theorem Vh(a b:ByteArray):DC (·+·) a b=Bb a b:=by
 unfold DC Bb TX pB;simp only[Kf]
theorem VM(a b:ByteArray):DC (·-·) a b=yS a b:=by
 unfold DC yS TX pB;simp only[Kf,Rat.neg_num,Rat.neg_den,Int.neg_mul,<-Int.sub_eq_add_neg];have:∀n:Int,rB (-n)=rB n:=fun n=>by unfold rB;rw[Int.natAbs_neg]
 simp only[this]
theorem zG(a b:ByteArray)(I:a.size<=1048576)(J:b.size<=1048576):PC prog 25 [str a,str b] (.tup [str (Bb a b).1,int (Bb a b).2]):=by
 have:=Ii 60 (·+·) (by kernel_rfl) (fun m n E F=>by rw[<-ZN E F];exact anI _ _ (jF E) (jF F)) a b I J;rw[Vh]at this;unfold fv at this;refine pcd Tryz.func25 ?_;unfold Tryz.f25;simp only[gdS];simp only[go_sem];refine PC.use this ?_;simp only[go_sem];exact .refl _
theorem uE(a b:ByteArray)(I:a.size<=1048576)(J:b.size<=1048576):PC prog 28 [str a,str b] (.tup [str (yS a b).1,int (yS a b).2]):=by
 have:=Ii 67 (·-·) (by kernel_rfl) (fun m n E F=>by rw[<-Xh E F];exact anW _ _ (jF E) (jF F)) a b I J;rw[VM]at this;unfold fv at this;refine pcd Tryz.func28 ?_;unfold Tryz.f28;simp only[gdS];simp only[go_sem];refine PC.use this ?_;simp only[go_sem];exact .refl _
end Go.Proofs.YtdlijlecpopadaaGreatDoor.Nu
end
section
namespace Go.Nu
open Go Go.Lib
theorem jF{m:Int}(E:m.natAbs<cO):(zed m).size<=4097:=by
 have:=(sF m).2 E;unfold dS at this;split at this
 . rw[<-cF,jE,List.length_drop]at this
   rw[<-cF];omega
 . omega
theorem Jy{x:Rat}(h:sJ x):(oE x).size<=8194:=by
 have h1:=jF h.1;have E:=(iB x.den).2 h.2;unfold oE;split
 . omega
 . rw[ByteArray.size_append,ByteArray.size_append]
   have:slB.size=1:=rfl;omega
theorem tL{s:ByteArray}(h:cV s=true):s.size<=8194:=by
 obtain⟨x,rfl,E,_⟩:=lV h;exact Jy E
theorem Q4:cV (dec 0)=true:=by
 have:dec 0=oE 0:=(gW 0).symm.trans (if_pos (show(0:Rat).den=1 from rfl)).symm;rw[this];exact oB ⟨aiS,K0 (k:=1) (by decide) (by decide)⟩
end Go.Nu
end
section
namespace Go.Proofs.YtdlijlecpopadaaGreatDoor.Nu
open Go.Proofs.Tryz(prog)
open Go.Aw Go.Aw.D Go.Proofs Ty Go.Nu
theorem LW{p q:Int}(I:0<q):(p.fdiv q).natAbs<=p.natAbs:=by
 obtain⟨e,h0,h1⟩:=sP (p:=p) I;generalize p.fdiv q=d at *;generalize p.fmod q=m at *;rcases Int.lt_or_le d 0 with E|E
 . have F:(d+1)*q<=(d+1)*1:=Int.mul_le_mul_of_nonpos_left (by omega) (by omega)
   rw[Int.add_mul]at F;omega
 . have F:d*1<=d*q:=Xdf (by omega) E
   omega
theorem L8{p q:Int}(F:p.natAbs<cO)(E:q.natAbs<cO)(h:0<q):Ej (zed p) (zed q)=(zed (p.fdiv q),zed (p.fmod q),0):=by
 unfold Ej;rw[if_pos (vC F E),dM,dM,if_neg (by omega)]
theorem aaR(i j:Int):Y5 (zed i) (zed j)=iQ i j:=by unfold Y5;rw[if_pos ⟨sZ _,sZ _⟩,dM,dM]
theorem Rg(i j:Int):iQ i j= -1\/iQ i j=0\/iQ i j=1:=by
 unfold iQ;split
 . exact .inl rfl
 . split
   . exact .inr (.inr rfl)
   . exact .inr (.inl rfl)
def ayG:AV->Nat
 | .v (.string s)=>(kL s).natAbs
 | _=>0
theorem Ns(n:Int):ayG (str (zed n))=n.natAbs:=by show(kL (zed n)).natAbs=_;rw[dM]
theorem FQ(n:Int):(bl (zed n) == [48])=decide (n=0):=by
 rw[qA,<-show zed ((0:Nat):Int)=dec 0 from gW 0,Xar,nJ,Yn,decide_eq_true_iff];exact Iff.rfl
theorem aAW{a b:Int}(F:a=1\/a= -1)(E:b= -1\/b=0\/b=1):IntKind.i64.wrap (a*b)=a*b:=by
 rcases F with rfl|rfl <;> rcases E with rfl|rfl|rfl <;> rfl
theorem Nk{a:Int}(E:a=1\/a= -1):IntKind.i64.wrap (0-a)= -a:=by rcases E with rfl|rfl <;> rfl
theorem pN(a b:ByteArray)(ha:a.size<=1048576)(hb:b.size<=1048576):PC prog 24 [str a,str b] (int (xW a b)):=by
 have F:=XZ a b ha hb;by_cases hr:(cV a&&cV b)=true
 rotate_left
 . rw[show PW a b=_ from if_neg hr]at F
   rw[show xW a b=0 from if_neg hr];refine pcd Tryz.func24 ?_;unfold Tryz.f24;simp only[gdS];simp only[go_sem];refine PC.use F ?_;simp only[go_sem];refine aB (fun _=>?_) (fun hb=>by cases hb);simp only[go_sem];exact .refl _
 rw[show PW a b=_ from if_pos hr]at F;rw[show xW a b=_ from if_pos hr];simp only[Xam]at hr;obtain⟨x,rfl,hx,e1,e2⟩:=lV hr.1;obtain⟨y,rfl,hy,e3,e4⟩:=lV hr.2;rw[e1,e2,e3,e4]at F;rw[kR,kR];have xd:((x.den:Int)).natAbs<cO:=by rw[Xbw];exact hx.2
 have yd:((y.den:Int)).natAbs<cO:=by rw[Xbw];exact hy.2
 have x0:=x.den_nz;have y0:=y.den_nz;rw[<-gW,<-gW]at F;refine pcd Tryz.func24 ?_;unfold Tryz.f24;simp only[gdS];simp only[go_sem];refine PC.use F ?_;simp only[go_sem];refine aB (fun hb=>by cases hb) (fun _=>?_);simp only[go_sem];refine⟨fun ρ _=>∃(p q r s g:Int),ρ 5=str (zed p)/\ρ 6=str (zed q)/\ρ 7=str (zed r)/\ρ 8=str (zed s)/\ρ 10=int g/\(g=1\/g= -1)/\0<q/\0<s/\p.natAbs<cO/\q.natAbs<cO/\r.natAbs<cO/\s.natAbs<cO/\VS x y=g*KN p q r s,fun ρ _=>ayG (ρ 6),
   ⟨x.num,x.den,y.num,y.den,1,by simp only[go_sem],by simp only[go_sem],by simp only[go_sem],by simp only[go_sem],by simp only[go_sem],.inl rfl,by omega,by omega,hx.1,xd,hy.1,yd,by rw[Int.one_mul,alB]⟩,?_⟩
 rintro ρ H ⟨p,q,r,s,g,h5,Z,X,Y,E,hg,hq,hs,bp,bq,br,bs,I⟩;simp only[go_sem,h5,Z,X,Y,E];refine PC.use (Lp (zed p) (zed q) (jF bp) (jF bq)) ?_;rw[L8 bp bq hq];simp only[go_sem,h5,Z,X,Y,E];refine PC.use (Lp (zed r) (zed s) (jF br) (jF bs)) ?_;rw[L8 br bs hs];simp only[go_sem,h5,Z,X,Y,E];have d1:=LW (p:=p) hq;have d2:=LW (p:=r) hs;refine PC.use (Re (zed (p.fdiv q)) (zed (r.fdiv s)) (jF (by omega)) (jF (by omega))) ?_;rw[aaR];simp only[go_sem,h5,Z,X,Y,E];obtain⟨_,m0,m1⟩:=sP (p:=p) hq;obtain⟨_,n0,n1⟩:=sP (p:=r) hs;have c3:=Rg (p.fdiv q) (r.fdiv s);refine aB (fun hc=>?_) (fun hc=>?_)
 . have hc:iQ (p.fdiv q) (r.fdiv s)≠0:=by simpa using hc
   simp only[go_sem,E,aAW hg c3];refine cI ?_;rw[I,Sl hq hs (fun e=>hc (rX e))]
 have hc:p.fdiv q=r.fdiv s:=Jm.1 (by simpa using hc);have hX:=Wy hq hs hc;generalize p.fmod q=m at *;generalize r.fmod s=n at *;simp only[go_sem,h5,Z,X,Y,E,FQ];refine aB (fun hz=>?_) (fun hz=>?_)
 . have hz:m=0/\n=0:=by simpa using hz
   simp only[go_sem];refine cI ?_;rw[I,hX,hz.1,hz.2,Int.zero_mul,Int.zero_mul,rX rfl,Int.mul_zero]
 simp only[go_sem,h5,Z,X,Y,E,FQ];refine aB (fun J=>?_) (fun J=>?_)
 . have J:m=0:=of_decide_eq_true J
   have O:0<n:=by
     rcases Int.lt_or_le 0 n with h|h
     . exact h
     . exfalso
       have:n=0:=by omega
       rw[J,this]at hz;cases hz
   simp only[go_sem,E,Nk hg];refine cI ?_;rw[I,hX,J,Int.zero_mul,kP (Int.mul_pos O hq)];omega
 have J:0<m:=by have:=of_decide_eq_false J;omega
 simp only[go_sem,h5,Z,X,Y,E,FQ];refine aB (fun O=>?_) (fun O=>?_)
 . have O:n=0:=of_decide_eq_true O
   simp only[go_sem,E];refine cI ?_;rw[I,hX,O,Int.zero_mul,kO (Int.mul_pos J hs)];omega
 have O:0<n:=by have:=of_decide_eq_false O;omega
 simp only[go_sem,h5,Z,X,Y,E,Nk hg];refine⟨⟨q,m,s,n,-g,rfl,rfl,rfl,rfl,rfl,by omega,J,O,bq,by omega,bs,by omega,?_⟩,?_⟩
 . rw[I,hX,WI]
   rw[Int.mul_neg,Int.neg_mul]
 . rw[Ns,Ns];omega
end Go.Proofs.YtdlijlecpopadaaGreatDoor.Nu
end
