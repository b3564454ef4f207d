import Derived.WalkKit
import Derived.BigCall
import Derived.Deep.LoopGhost
import Derived.Deep.DeepFit
import Derived.Lib.SmallJoins
import Derived.Test.YtohmomanmikphaaGreatDoorPa07
set_option linter.unusedSimpArgs false
set_option linter.unusedVariables false
set_option maxRecDepth 100000
namespace Go.Proofs.YtohmomanmikphaaGreatDoor
open Go.Aw Go.Aw.D Go.Proofs Ty
namespace Nu
open Go.Proofs.Tryz(prog)
open Go.Nu Go.RowKit Go.Sort
theorem vW{T e:TypeId}{B b:Nat}{bs:List Value}{w w':World}(h:Lib.IsBuilder T e B b bs w)(F:Below w.heap.size w w'):Lib.IsBuilder T e B b bs w':=by
 have E:∀p,Lib.BuilderAt T e B b p bs w->Lib.BuilderAt T e B b p bs w':=by
   rintro p ⟨h1,v,I,O,V⟩;refine⟨h1,v,?_,⟨O.1,?_⟩,V⟩
   . rw[F.block b (Array.getElem?_eq_some_iff.1 I).1];exact I
   . rcases O.2 with U|⟨g,cap,cur,Z,Y,J,X⟩
     . exact .inl U
     . exact .inr ⟨g,cap,cur,Z,Y,by rw[F.block g (Array.getElem?_eq_some_iff.1 J).1];exact J,X⟩
 exact h.imp (E _) (E _)
theorem oF{w:World}(k:Nat)(os:Array Obj):Below w.heap.size w (grow (w.drewN k) os):=by
 refine⟨rfl,rfl,rfl,?_,fun i hi=>?_⟩
 . simp[grow]
 . simp only[grow,World.heap_drewN]
   rw[Array.getElem?_append_left hi]
theorem Lt{T e:TypeId}{B b:Nat}{l:List UInt8}{s:ByteArray}{w:World}(h:Lib.BuilderAt T e B b (.pointer (some ⟨b,0,none⟩)) (Lib.byteCells l++Lib.strCells s) w):Lib.IsBuilder T e B b (Lib.byteCells (l++bl s)) w:=by
 rw[Lib.strCells_eq,<-Lib.byteCells_append]at h;exact .inr h
theorem vT(B b:Nat)(l:List UInt8)(s:ByteArray)(w:World)(h:Lib.IsBuilder 280 5 B b (Lib.byteCells l) w)(E:l.length+s.size<=140737488355328)(F:B<=w.heap.size):
   Calls prog 262 #[.pointer (some ⟨b,0,none⟩),.string s] w fun e w'=>e=.returned (.tuple #[.int .i64 s.size,.nilIface])/\Lib.IsBuilder 280 5 B b (Lib.byteCells (l++bl s)) w'/\Below B w w':=
 (Any.Builder_WriteString (P:=prog) (ρ:=Tryz.lays105_ren) { Tryz.lays105 with } Tryz.Builder_Extra_105 B b (Lib.byteCells l) s w h (by rw[Lib.byteCells_length];exact E) F).mono fun e w' ⟨O,I,J⟩=>⟨O,Lt I,J⟩
theorem ahL{l:List Nat}(h:Lim bas l)(K:Nat)(E:l.length<=K)(h1:1<=K):(Lib.decDigits (ofL bas l)).length<=9*K:=by
 refine(uB (by omega)).2 (Xcb (oW (by decide) h) ?_);rw[show bas=10^9 from rfl,<-Nat.pow_mul];exact Xav (by omega) (by omega)
def Iu(n k:Nat):List UInt8:=Lib.decDigits (ofL bas ((bO bas n).drop k))
theorem WO{n k x:Nat}(F:k+1<(bO bas n).length)(E:(bO bas n)[k]?=some x):Iu n k=Iu n (k+1)++aAk x:=by
 have h1:=eV (b:=bas) (by decide) n x (Xac E);unfold Iu;rw[Az bas E];exact acD h1 (X5 (by decide) F)
set_option maxHeartbeats 1600000 in
theorem Py (n:Nat) (w:World) (b o c:Nat) (ab:(bO bas n).length<=1048576) (ac:0<(bO bas n).length)
    (hz:∀(i x:Nat),(bO bas n)[i]?=some x->w.cell? ⟨b,o+i,none⟩=some (.int .i64 x)) (hb:b<w.heap.size)
    (J:Lib.TabIs prog w "internal/strconv.uint64pow10" .u64 Lib.pow10Tab):
    Calls prog 225 #[.slice (some ⟨b,o,none⟩) (bO bas n).length c] w fun e w'=>e=.returned (.string (dec n))/\Below w.heap.size w w':=by
  obtain⟨L,hL⟩:∃L,(bO bas n).length=L:=⟨_,rfl⟩
  have h0:Lib.IsBuilder 280 5 w.heap.size w.heap.size (Lib.byteCells []) (w.alloc (.cells #[.pointer none,.slice none 0 0] 280)):=Lib.fresh_isBuilder 280 5 w
  have b0:Below w.heap.size w (w.alloc (.cells #[.pointer none,.slice none 0 0] 280)):=(Below.refl _ w).alloc (Xah _) _
  obtain⟨x0,U⟩:=aN (show L-1<(bO bas n).length by omega)
  have ak:=hz _ _ U
  have X:=eV (b:=bas) (by decide) n x0 (Xac U)
  have X:x0<1000000000:=X
  rw[hL]
  rw[hL]at ac ab
  have am:((L:Int) == 0)=false:=by rw[beq_eq_false_iff_ne];omega
  go_enter Tryz.func225,Tryz.ntmps225
  go_wp2_with (go_at_call 224;refine(Tryz.strconv_Itoa (x0:Int) (by omega) (by omega) _ (Lib.tabIs_alloc J _)).mono ?_)
  rintro e W1 ⟨rfl,k,os,rfl⟩
  have Y:Below w.heap.size w (grow ((w.alloc (.cells #[.pointer none,.slice none 0 0] 280)).drewN k) os):=b0.trans ⟨rfl,rfl,rfl,(oF k os).size,fun i hi=>(oF k os).block i (Xcb hi b0.size)⟩
  have h1:=vW h0 (oF k os)
  generalize grow _ os=W1 at *
  have hI:∀x:Nat,(Lib.itoa (x:Int))=Lib.decDigits x:=Lib.itoa_nonneg
  have ad:∀x:Nat,x<1000000000->(Lib.decDigits x).length<=9:=fun x hx=>(uB (k:=9) (by omega)).2 hx
  have I:Iu n (L-1)=Lib.decDigits x0:=by
    unfold Iu
    rw[Az bas U,show L-1+1=L by omega,<-hL,List.drop_length]
    rfl
  have aa:(⟨(Lib.itoa (x0:Int)).toArray⟩:ByteArray).size<=9:=by rw[<-gT,kR,hI];exact ad _ X
  have cW:=vT w.heap.size w.heap.size [] _ W1 h1 (by simp only[List.length_nil];omega:([]:List UInt8).length+(⟨(Lib.itoa (x0:Int)).toArray⟩:ByteArray).size<=_) Y.size
  go_wp2_with (go_at_call 262;refine cW.mono ?_)
  rintro e W2 ⟨rfl,h2,b2⟩
  rw[Xbr,kR,hI,<-I]at h2
  have b2:=Y.trans b2
  have ai:∀k,(Iu n k).length<=9437184:=fun k=>by
    have:=ahL ((eV (b:=bas) (by decide) n).drop k) 1048576 (by rw[Xbw,hL];omega) (by omega)
    unfold Iu
    omega
  clear h0 b0 h1 Y aa I
  go_wp2
  go_loopg [4] (L-1) (fun g s4 wx=>∃k:Nat,k<=L-1/\g=k/\s4=.int .i64 ((k:Int)-1)/\Lib.IsBuilder 280 5 w.heap.size w.heap.size (Lib.byteCells (Iu n k)) wx/\Below w.heap.size w wx)
  case atStart=>exact⟨L-1,Xah _,rfl,by congr 1;omega,h2,b2⟩
  clear h2 b2
  case round=>
    obtain⟨_,hk,rfl,rfl,hB,E⟩:=hrel
    cases gk with
    | zero=>
      have af:Iu n 0=Lib.decDigits n:=by unfold Iu;rw[Xca,fF (by decide)]
      rw[af]at hB
      have cS:=Tryz.Builder_String_any w.heap.size w.heap.size (Lib.decDigits n) wr hB E.size
      go_wp2_with (go_at_call 264;refine cS.mono ?_)
      rintro e W3 ⟨rfl,F⟩
      go_wp2
      go_ret
      exact⟨rfl,E.trans F⟩
    | succ i=>
      obtain⟨x,hx⟩:=aN (show i<(bO bas n).length by omega)
      have hl:=(E.cell hb).trans (hz i x hx)
      have ah:x<1000000000:=eV (b:=bas) (by decide) n x (Xac hx)
      have aj:(((i+1:Nat):Int)-1)=(i:Int):=by omega
      have V:=WO (n:=n) (by omega) hx
      have ae:Lib.TabIs prog wr "internal/strconv.uint64pow10" .u64 Lib.pow10Tab:=Go.Joins.tab_stays (g:=1) (by kernel_rfl) J E (Xah _)
      have al:=ai (i+1)
      rw[aj]
      go_wp2_with (go_at_call 224;refine(Tryz.strconv_Itoa (x:Int) (by omega) (by omega) _ ae).mono ?_)
      rintro e W1 ⟨rfl,k,os,rfl⟩
      have Y:Below w.heap.size w (grow (wr.drewN k) os):=E.trans ⟨rfl,rfl,rfl,(oF k os).size,fun i hi=>(oF k os).block i (Xcb hi E.size)⟩
      have h1:=vW hB (oF k os)
      clear hB ae
      generalize grow _ os=W1 at *
      have ag:=ad x ah
      rw[hI x]
      go_wp2_with (go_at_call 263;fail)
      have e9:(9:Int)-((Lib.decDigits x).length:Nat)=((9-(Lib.decDigits x).length:Nat):Int):=by omega
      rw[e9]
      refine(Tryz.strings_Repeat ⟨#[48]⟩ (9-(Lib.decDigits x).length) W1 (by omega) (by show 1*_<=_;omega)).mono ?_
      rintro e W3 ⟨rfl,F⟩
      have h3:=vW h1 F
      have F:Below w.heap.size w W3:=Y.trans ⟨F.os,F.tape,F.output,F.size,fun i hi=>F.block i (Xcb hi Y.size)⟩
      have O:bl ⟨(Lib.repeatL (⟨#[48]⟩:ByteArray).data.toList (9-(Lib.decDigits x).length)).toArray⟩=List.replicate (9-(Lib.decDigits x).length) 48:=by
        rw[kR]
        have:=Lib.repeatL_replicate 48 1 (9-(Lib.decDigits x).length)
        rwa [Nat.mul_one]at this
      clear h1 Y
      generalize (⟨(Lib.repeatL (⟨#[48]⟩:ByteArray).data.toList (9-(Lib.decDigits x).length)).toArray⟩:ByteArray)=Z at *
      have hZ:Z.size<=9:=by rw[<-gT,O,List.length_replicate];omega
      have cW:=vT w.heap.size w.heap.size _ Z W3 h3 (by omega) F.size
      go_wp2_with (go_at_call 262;refine cW.mono ?_)
      rintro e W4 ⟨rfl,h4,b4⟩
      have b4:=F.trans b4
      clear cW h3 F
      have hX:(⟨(Lib.decDigits x).toArray⟩:ByteArray).size<=9:=by rw[<-gT,kR];exact ag
      have cW:=vT w.heap.size w.heap.size _ ⟨(Lib.decDigits x).toArray⟩ W4 h4 (by rw[Xae,gT];omega) b4.size
      go_wp2_with (go_at_call 262;refine cW.mono ?_)
      rintro e W5 ⟨rfl,h5,b5⟩
      have b5:=b4.trans b5
      rw[Xaw,O,kR]at h5
      go_wp2
      go_roundg i
      case measure=>omega
      case rel=>exact⟨i,by omega,rfl,rfl,by rw[V];exact h5,b5⟩
theorem OD{S:Sg}{w:World}{b:Nat}:∀{l:List Nat} {o sz:Nat},0<sz->iG S w b sz o (l.map jK)->∀(i x:Nat),l[i]?=some x->w.cell? ⟨b,o+i,none⟩=some (.int .i64 x)
 | [],_,_,_,_,i,x,h=>by simp at h
 | y::l,o,sz,hp,h,i,x,hx=>by
   simp only[Xbc,iG]at h;obtain⟨h1,E,I⟩:=h;have h1:sz=1:=h1.symm;subst h1;cases i with
   | zero=>
     simp only[List.getElem?_cons_zero,Option.some.injEq]at hx;subst hx;simp only[jK,dC]at E;obtain⟨⟨u,J,_,F⟩,_⟩:=E;simp only[rep]at F;subst F;exact J
   | succ i=>
     have:=OD (by omega) I i x (by simpa using hx)
     rwa [Nat.add_assoc,Nat.add_comm 1 i]at this
theorem aaE{w:World}(h:∀t∈XN,tH w t.1=some t.2):Lib.TabIs prog w "internal/strconv.uint64pow10" .u64 Lib.pow10Tab:=by
 have h1:=h (1,ZZ) (by simp[XN]);unfold Lib.TabIs World.var?;rw[show prog.globalNamed "internal/strconv.uint64pow10" = some 1 by kernel_rfl];exact h1
theorem Ho(n:Nat)(F:(bO bas n).length<=1048576):PC prog 225 [nl n] (str (dec n)):=by
 by_cases h0:n=0
 . subst h0
   rw[K9];refine pcd Tryz.func225 ?_;unfold Tryz.f225;simp only[gdS];simp only[go_sem];refine aB (fun h=>?_) (fun h=>by simp at h);simp only[go_sem];refine cS ?_;refine mZ ?_;rw[oD,Lib.decDigits_one (by omega)];rfl
 . intro S w vals U hf ha
   simp only[bG,rep]at ha;obtain⟨y,t,rfl,⟨ad,m,c,rfl,e1,e2,e3,V⟩,rfl⟩:=ha;have J:bO bas n≠[]:=fun e=>h0 ((sU (by decide)).1 e)
   have I:=List.length_pos_iff.2 J;rw[Xaa]at e1;rcases V with V|⟨b,o,sz,rfl,X,Y,O⟩
   . simp only[Xbt]at V;exact absurd V J
   . subst e1
     refine(Py n w b o c F I (OD Y O) (U.fz_lt b (U.ro_fz b X)) (aaE fun t ht=>(U.tabs t ht).2)).mono fun e w' ⟨he,E⟩=>?_
     exact⟨_,_,bV,S,he,rfl,U.after E.size fun k Z=>E.block k Z,by simp only[rep],U.grow E.os E.tape E.output E.size fun k Z=>E.block k Z,fS.refl _ _⟩
theorem Cg(n:Nat)(F:(bO bas n).length<=1048576):PC prog 181 [nl n] (.tup [str (szN n).1,int (szN n).2]):=by
 refine pcd Tryz.func181 ?_;unfold Tryz.f181;simp only[gdS];simp only[go_sem];refine PC.use (Ho n F) ?_;simp only[go_sem];have E:=jR n;refine aB (fun h=>?_) (fun h=>?_)
 . have h:4096<(dec n).size:=by simp at h;omega
   simp only[go_sem];rw[show szN n=(emp,4)from if_neg fun e=>by have:=E.2 e;omega];exact .refl _
 . have h:(dec n).size<=4096:=by simp at h;omega
   simp only[go_sem];rw[Dn (E.1 h)];exact .refl _
end Nu
namespace Nu
open Go.Proofs.Tryz(prog)
open Go.Nu
theorem QB{n K:Nat}(h:n<dZ)(E:akF<=9*K):(bO bas n).length<=K:=by
 refine lF (b:=bas) (k:=K) (by decide) (Xcb h ?_);rw[show bas=10^9 from rfl,<-Nat.pow_mul];exact Xav (show 0<10 by omega) E
theorem lN{n:Nat}(h:n<dZ):(bO bas n).length<=457:=QB h (by decide)
theorem ZJ{H:aK}{o l:List Nat}(h:l=o):ConvE H (dJ o).es (l.map jK):=h▸ConvE.refl _
theorem Jw:∀l:List Nat,mX l=l.take (mX l).length
 | []=>rfl
 | x::l=>by
   have ih:=Jw l;rw[mX];split
   . split <;> rfl
   . rename_i y t e
     rw[e]at ih;simp only[Xad,List.take_succ_cons]
     congr 1
theorem WC{l:List Nat}(h:l.length<=(mX l).length):mX l=l:=by
 rw[Jw l,Xap h]
theorem Y0(a b:ByteArray)(ha:a.size<=1048576)(I:b.size<=1048576):PC prog 168 [str a,str b] (.tup [str (RH a b).1,int (RH a b).2]):=by
 refine pcb (fun t=>t == 9) Tryz.func168 ?_;unfold Tryz.f168;simp only[gdS];simp only[go_sem];refine PC.use (Qe a b ha I) ?_;simp only[go_sem];refine aB (fun h=>?_) (fun h=>?_)
 . have h:lA a b≠0:=by simpa using h
   simp only[go_sem];rw[show RH a b=(emp,lA a b)from if_neg h];exact .refl _
 have h:lA a b=0:=by simpa using h
 obtain⟨m,n,rfl,rfl,hm,hn⟩:=wG h;have ai:=lN hm;have ag:=lN hn;simp only[go_sem,Gj h,dG];rw[show RH (dec m) (dec n)=szN (m+n)by unfold RH;rw[if_pos h,dG,dG]];have om:=fF (b:=bas) (by decide) m;have on:=fF (b:=bas) (by decide) n;have lm:=eV (b:=bas) (by decide) m;have ln:=eV (b:=bas) (by decide) n;have ae:(bO bas m).length<=(bO bas m).length:=Xah _;have ad:(bO bas n).length<=(bO bas n).length:=Xah _;obtain⟨x,hx⟩:∃x,bO bas m=x:=⟨_,rfl⟩;obtain⟨y,hy⟩:∃y,bO bas n=y:=⟨_,rfl⟩;have ae:x.length<=(bO bas m).length:=by rw[hx];exact Xah _
 have ad:y.length<=(bO bas n).length:=by rw[hy];exact Xah _
 rw[hx]at om lm ai;rw[hy]at on ln ag;simp only[hx,hy];refine aL fun j hj=>?_
 refine⟨fun ρ H=>∃(i j c:Nat) (o:List Nat),i<=max x.length y.length+1/\ρ 6=.sl (x.map jK)/\ρ 7=.sl (y.map jK)/\ρ 9=.os j/\ρ 10=int c/\ρ 11=int i/\H j=some (dJ o)/\Lim bas o/\o.length=i/\c<=1/\ofL bas o+bas^i*c=ofL bas (x.take i)+ofL bas (y.take i)/\(i=max x.length y.length+1->c=0/\bas^max x.length y.length<=m+n),fun ρ _=>max x.length y.length+1-aV (ρ 11),
   ⟨0,j,0,[],Xab _,by simp only[go_sem],by simp only[go_sem],by simp only[go_sem],by simp only[go_sem];rfl,by simp only[go_sem];rfl,Fl,by simp[Lim],rfl,by omega,by simp[ofL],by omega⟩,?_⟩
 clear hj j;rintro ρ H ⟨i,j,c,o,hi,Z,Y,X,F,E,Rj,ho,U,hc,hv,J⟩;have aa:fP (x.length:Int) (y.length:Int)=((max x.length y.length:Nat):Int):=by unfold fP;split <;> omega
 simp only[go_sem,Z,Y,X,F,E,aa];refine aB (fun I=>?_) (fun I=>?_)
 . have I:i<max x.length y.length\/0<c:=by simpa using I
   have ak:i<=max x.length y.length:=by
     rcases I with I|I
     . omega
     . rcases Xbk (max x.length y.length) i with h|h
       . have:=(J (by omega)).1;omega
       . exact h
   have am:x.getD i 0<1000000000:=lm.getD (by decide) i;have al:y.getD i 0<1000000000:=ln.getD (by decide) i;have af:=Yb (b:=bas) (by decide) U hv;have V:i+1=max x.length y.length+1->(x.getD i 0+y.getD i 0+c)/bas=0/\bas^max x.length y.length<=m+n:=fun e=>by
     have e:i=max x.length y.length:=by omega
     have ah:x.getD i 0=0:=by simp[List.getD,List.getElem?_eq_none (by omega:x.length<=i)]
     have aj:y.getD i 0=0:=by simp[List.getD,List.getElem?_eq_none (by omega:y.length<=i)]
     have ab:c=1:=by omega
     rw[ah,aj,ab];refine⟨by decide,?_⟩;rw[Xap (by omega),Xap (by omega),om,on,ab,e]at hv;omega
   simp only[go_sem,Z,Y,X,F,E];refine PC.use (Sf x i (by omega)) ?_;simp only[go_sem,Z,Y,X,F,E];refine PC.use (Sf y i (by omega)) ?_;have e1:IntKind.i64.wrap (IntKind.i64.wrap (((x.getD i 0:Nat):Int)+((y.getD i 0:Nat):Int))+(c:Int))=((x.getD i 0+y.getD i 0+c:Nat):Int):=by
     rw[show IntKind.i64.wrap (((x.getD i 0:Nat):Int)+((y.getD i 0:Nat):Int))=((x.getD i 0:Nat):Int)+((y.getD i 0:Nat):Int)from bH (by omega),bH (by omega)];omega
   have e2:IntKind.i64.wrap ((((x.getD i 0+y.getD i 0+c:Nat):Int)).tdiv 1000000000)=(((x.getD i 0+y.getD i 0+c)/1000000000:Nat):Int):=by
     rw[Xbx (by omega),bH (by omega)];omega
   have e3:(((x.getD i 0+y.getD i 0+c:Nat):Int)).tmod 1000000000=(((x.getD i 0+y.getD i 0+c)%1000000000:Nat):Int):=by
     rw[Xch (by omega)];omega
   have hq:(x.getD i 0+y.getD i 0+c)/1000000000<=1:=by omega
   simp only[go_sem,Z,Y,X,F,E,e1,e2,e3];refine⟨by decide,?_⟩;refine aZ Rj ⟨rfl,rfl⟩ ⟨rfl,trivial⟩ (by simp only[dJ,Xaa,Xad,List.length_nil];omega) (fun j' an=>?_);simp only[go_sem,Z,Y,X,F,E,e2,aT (show i<=4611686018427387904 by omega)];exact⟨by decide,⟨i+1,j',_,o++[(x.getD i 0+y.getD i 0+c)%bas],by omega,rfl,rfl,rfl,wM,ho.snoc (Nat.mod_lt _ (by decide)),by simp[U],hq,af,V⟩,by simp only[aE];omega⟩
 . have I : max x.length y.length <= i /\ c = 0 := by
     simp at I;omega
   obtain⟨I,rfl⟩:=I;rw[Nat.mul_zero,Nat.add_zero,Xap (by omega),Xap (by omega),om,on]at hv;have ht:=MU (b:=bas) (by decide) ho hv;have ac:o.length<=(bO bas (m+n)).length:=by
     rcases Xbk (max x.length y.length) i with h|h
     . have:=LJ (b:=bas) (by decide) (J (by omega)).2
       omega
     . rw[U,show i=max x.length y.length by omega]
       exact Nat.max_le.2 ⟨Xal ae (fO (by decide) (Nat.le_add_right m n)),Xal ad (fO (by decide) (Nat.le_add_left n m))⟩
   have O:bO bas (m+n)=o:=by
     rw[<-ht];refine WC ?_;rw[ht] ;exact ac
   simp only[go_sem,Z,Y,X,F,E];refine PC.useF [j] (.cons _ _ _ _ (.row _ _ _ (by simp only[Xbf,if_true];exact Rj) (ZJ O)) .nil) (Cg (m+n) (by rw[O];omega)) ?_;simp only[go_sem];exact .refl _
theorem ZO(a b:ByteArray)(O:a.size<=1048576)(V:b.size<=1048576):PC prog 169 [str a,str b] (.tup [str (Rk a b).1,int (Rk a b).2]):=by
 refine pcd Tryz.func169 ?_;unfold Tryz.f169;simp only[gdS];simp only[go_sem];refine PC.use (Qe a b O V) ?_;simp only[go_sem];refine aB (fun h=>?_) (fun h=>?_)
 . have h:lA a b≠0:=by simpa using h
   simp only[go_sem];rw[show Rk a b=(emp,lA a b)from if_neg h];exact .refl _
 have h:lA a b=0:=by simpa using h
 obtain⟨m,n,rfl,rfl,Y,U⟩:=wG h;have X:=lN Y;have Z:=lN U;simp only[go_sem,Gj h,dG];have e:Rk (dec m) (dec n)=if m<n then(emp,2)else szN (m-n):=by unfold Rk;rw[if_pos h,dG,dG]
 rw[e];refine PC.use (DA m n (by omega) (by omega)) ?_;simp only[go_sem];refine aB (fun E=>?_) (fun E=>?_)
 . have J : m < n := by
     rcases Xbk m n with I|I
     . exact I
     . exfalso
       have E:=of_decide_eq_true E;unfold jY at E;rw[if_neg (by omega)]at E;split at E <;> omega
   simp only[go_sem];rw[if_pos J];exact .refl _
 . have F:¬m<n:=fun I=>of_decide_eq_false E (by rw[kL (by omega)];decide)
   simp only[go_sem];rw[if_neg F];refine PC.use (Fy m n (by omega) (by omega)) ?_;simp only[go_sem];refine PC.use (Cg (m-n) (by have:=fO (b:=bas) (by decide) (Nat.sub_le m n);omega)) ?_;simp only[go_sem];exact .refl _
theorem apA(a b:ByteArray)(F:a.size<=1048576)(J:b.size<=1048576):PC prog 167 [str a,str b] (.tup [str (Oa a b).1,str (Oa a b).2.1,int (Oa a b).2.2]):=by
 refine pcd Tryz.func167 ?_;unfold Tryz.f167;simp only[gdS];simp only[go_sem];refine PC.use (Qe a b F J) ?_;simp only[go_sem];refine aB (fun h=>?_) (fun h=>?_)
 . have h:lA a b≠0:=by simpa using h
   simp only[go_sem];rw[show Oa a b=(emp,emp,lA a b)from if_neg h];exact .refl _
 have h:lA a b=0:=by simpa using h
 obtain⟨m,n,rfl,rfl,U,I⟩:=wG h;have O:=lN U;have V:=lN I;simp only[go_sem,Gj h,dG,Xaa];have e:Oa (dec m) (dec n)=if n=0 then(emp,emp,10)else(dec (m/n),dec (m%n),0):=by unfold Oa;rw[if_pos h,dG,dG]
 rw[e];refine aB (fun E=>?_) (fun E=>?_)
 . have h0:n=0:=(sU (b:=bas) (by decide)).1 (by simpa using E)
   simp only[go_sem];rw[if_pos h0];exact .refl _
 . have h0:n≠0:=fun e=>by subst e;rw[fJ]at E;simp at E
   simp only[go_sem];rw[if_neg h0];refine PC.use (NZ m n (by omega) (by omega) (by omega)) ?_;simp only[go_sem];refine PC.use (Ho (m/n) (by have:=fO (b:=bas) (by decide) (Xcn m n);omega)) ?_;simp only[go_sem];refine PC.use (Ho (m%n) (by have:=fO (b:=bas) (by decide) (Nat.mod_le m n);omega)) ?_;simp only[go_sem];exact .refl _
theorem Zt(a b:ByteArray)(ha:a.size<=1048576)(E:b.size<=1048576):PC prog 111 [str a,str b] (.tup [str (Lr a b).1,int (Lr a b).2]):=by
 refine pcd Tryz.func111 ?_;unfold Tryz.f111;simp only[gdS];simp only[go_sem];refine PC.use (Qe a b ha E) ?_;simp only[go_sem];refine aB (fun h=>?_) (fun h=>?_)
 . have h:lA a b≠0:=by simpa using h
   simp only[go_sem];rw[show Lr a b=(emp,lA a b)from if_neg h];exact .refl _
 have h:lA a b=0:=by simpa using h
 obtain⟨m,n,rfl,rfl,hm,hn⟩:=wG h;have Y:=lN hm;have V:=lN hn;simp only[go_sem,Gj h,dG];have e:Lr (dec m) (dec n)=szN (Nat.gcd m n):=by unfold Lr;rw[if_pos h,dG,dG]
 rw[e];refine⟨fun ρ _=>∃p q:Nat,ρ 6=nl p/\ρ 7=nl q/\(bO bas p).length<=457/\(bO bas q).length<=457/\Nat.gcd p q=Nat.gcd m n,fun ρ _=>match ρ 7 with| .sl es=>ofL bas (es.map fun c=>aV (c.getD 0 .any))|_=>0,⟨m,n,by simp only[go_sem],by simp only[go_sem],Y,V,rfl⟩,?_⟩;rintro ρ H ⟨p,q,O,U,Z,J,X⟩;have F:∀q:Nat,ofL bas (((bO bas q).map jK).map fun c=>aV (c.getD 0 .any))=q:=fun q=>by
   rw[List.map_map,show((fun c:List AV=>aV (c.getD 0 .any)) ∘ jK)=id from funext fun n=>by simp[jK,aV],List.map_id,fF (by decide)]
 simp only[go_sem,O,U,Xaa];refine aB (fun E=>?_) (fun E=>?_)
 . have I : 0 < q := by
     rcases Xcr q with h0|h0
     . subst h0;rw[fJ]at E;simp at E
     . exact h0
   simp only[go_sem,O,U];refine PC.use (NZ p q (by omega) I (by omega)) ?_;simp only[go_sem,O,U];refine⟨⟨q,p%q,rfl,rfl,J,Xal (fO (by decide) (Nat.le_of_lt (Nat.mod_lt p I))) J,?_⟩,?_⟩
   . rw[<-X,Nat.gcd_comm p q,Nat.gcd_rec q p,Nat.gcd_comm]
   . rw[F,F];exact Nat.mod_lt p I
 . have I : q = 0 := by
     have:(bO bas q).length=0:=by simp at E;simpa using E
     exact(sU (b:=bas) (by decide)).1 (Xco this)
   subst I;simp only[go_sem,O,U];rw[Nat.gcd_zero_right]at X;rw[<-X];refine PC.use (Cg p (by omega)) ?_;simp only[go_sem];exact .refl _
theorem ajS{b:Nat}(F:0<b){l:List Nat}{q p:Nat}(h:ofL b l<b^q)(O:q<=p)(I:p<l.length):l[p]?=some 0:=by
 obtain⟨x,E⟩:=aN I;rcases Xcr x with h0|h0
 . rw[E,h0]
 . exfalso
   have J:ofL b l=ofL b (l.take p)+b^p*ofL b (l.drop p):=by
     have:=qI b (l.take p) (l.drop p);rw[List.take_append_drop,Xao,Nat.min_eq_left (by omega)]at this;exact this
   rw[Az b E]at J;have h1:b^p*1<=b^p*(x+b*ofL b (l.drop (p+1))):=Nat.mul_le_mul_left _ (by omega);have U:b^q<=b^p:=Xav F O;omega
theorem aoJ(a b:ByteArray)(ha:a.size<=1048576)(hb:b.size<=1048576):PC prog 295 [str a,str b] (.tup [str (SO a b).1,int (SO a b).2]):=by
 refine pcb (fun t=>t == 9) Tryz.func295 ?_;unfold Tryz.f295;simp only[gdS];simp only[go_sem];refine PC.use (Qe a b ha hb) ?_;simp only[go_sem];refine aB (fun h=>?_) (fun h=>?_)
 . have h:lA a b≠0:=by simpa using h
   simp only[go_sem];rw[show SO a b=(emp,lA a b)from if_neg h];exact .refl _
 have h:lA a b=0:=by simpa using h
 obtain⟨m,n,rfl,rfl,hm,hn⟩:=wG h;have ar:=lN hm;have aq:=lN hn;simp only[go_sem,Gj h,dG,Xaa];rw[show SO (dec m) (dec n)=szN (m*n)by unfold SO;rw[if_pos h,dG,dG]];have om:=fF (b:=bas) (by decide) m;have on:=fF (b:=bas) (by decide) n;have lm:=eV (b:=bas) (by decide) m;have ln:=eV (b:=bas) (by decide) n;have am:(bO bas (m*n)).length<=(bO bas m).length+(bO bas n).length:=by
   refine lF (by decide) ?_;have h1:=oW (b:=bas) (by decide) lm;have h2:=oW (b:=bas) (by decide) ln;rw[om]at h1;rw[on]at h2;rw[Nat.pow_add];exact Nat.mul_lt_mul'' h1 h2
 obtain⟨x,hx⟩:∃x,bO bas m=x:=⟨_,rfl⟩;obtain⟨y,hy⟩:∃y,bO bas n=y:=⟨_,rfl⟩;rw[hx]at om lm ar am;rw[hy]at on ln aq am;have ew:IntKind.i64.wrap ((x.length:Int)+(y.length:Int))=((x.length+y.length:Nat):Int):=by rw[bH (by omega)];omega
 simp only[hx,hy,ew];refine⟨by omega,aL fun j hj=>?_⟩;simp only[go_sem];refine⟨fun ρ H=>∃(i:Nat) (out:List Nat),i<=x.length/\ρ 7=.sl (y.map jK)/\ρ 9=.os j/\ρ 32=.sl (x.map jK)/\ρ 33=int x.length/\ρ 34=int i/\H j=some (dJ out)/\Lim bas out/\out.length=x.length+y.length/\ofL bas out=ofL bas (x.take i)*ofL bas y,fun ρ _=>x.length-aV (ρ 34),
   ⟨0,List.replicate (x.length+y.length) 0,Xab _,by simp only[go_sem],by simp only[go_sem],by simp only[go_sem],by simp only[go_sem,Xaa],by simp only[go_sem];rfl,?_,Lim.zeros (by decide) _,by simp,by simp[ofL,Xc]⟩,?_⟩
 . rw[aA]
   simp only[dJ,List.map_replicate,I4];rfl
 clear hj;rintro ρ H ⟨i,out,hi,h7,h9,I,E,F,Rj,ho,ap,hv⟩;simp only[go_sem,h7,h9,I,E,F];refine aB (fun Z=>?_) (fun ak=>?_)
 . have Z:=ltB Z
   obtain⟨J,ai⟩:=aN Z;have b1:=inB Z;have ax:J<1000000000:=lm J (Xac ai);have au:out[i+y.length]?=some 0:=by
     refine ajS (b:=bas) (by decide) (q:=i+y.length) ?_ (Xah _) (by omega);rw[hv,Nat.pow_add];have h1:=oW (b:=bas) (by decide) (lm.take i);rw[Xao,Nat.min_eq_left hi]at h1;exact Nat.mul_lt_mul'' h1 (oW (b:=bas) (by decide) ln)
   simp only[go_sem,h7,h9,I,E,F,aC ai,b1,Xaa];refine⟨fun ρ H=>∃(k c:Nat) (o:List Nat),k<=y.length/\ρ 7=.sl (y.map jK)/\ρ 9=.os j/\ρ 10=int i/\ρ 11=int J/\ρ 12=int c/\ρ 32=.sl (x.map jK)/\ρ 33=int x.length/\ρ 34=int i/\ρ 39=.sl (y.map jK)/\ρ 40=int y.length/\ρ 41=int k/\H j=some (dJ o)/\Lim bas o/\o.length=x.length+y.length/\c<1000000000/\ofL bas o+bas^(i+k)*c=ofL bas out+bas^i*(J*ofL bas (y.take k))/\o[i+y.length]?=some 0,fun ρ _=>y.length-aV (ρ 41),
     ⟨0,0,out,Xab _,by simp only[go_sem,h7],by simp only[go_sem,h9],by simp only[go_sem],by simp only[go_sem],by simp only[go_sem];rfl,by simp only[go_sem,I],by simp only[go_sem,E],by simp only[go_sem,F],by simp only[go_sem,h7],by simp only[go_sem,Xaa],by simp only[go_sem];rfl,Rj,ho,ap,by omega,by simp[ofL],au⟩,?_⟩
   clear h7 h9 I E F Rj;rintro ρ H ⟨k,c,o,hk,h7,h9,ae,Y,ac,I,E,F,aa,X,ad,Rj,hO,an,hc,hV,hZ⟩;simp only[go_sem,h7,h9,ae,Y,ac,I,E,F,aa,X,ad];refine aB (fun U=>?_) (fun ab=>?_)
   . have U:=ltB U
     obtain⟨V,ah⟩:=aN U;have b2:=inB U;have aw:V<1000000000:=ln V (Xac ah);obtain⟨v,af⟩:=aN (show i+k<o.length by omega);have ay:v<1000000000:=hO v (Xac af);have b3:0<=((i+k:Nat):Int)/\((i+k:Nat):Int)<((dJ o).es.length:Nat):=by
       simp only[dJ,Xaa];omega
     have ei:IntKind.i64.wrap ((i:Int)+(k:Int))=((i+k:Nat):Int):=by rw[bH (by omega)];omega
     have ag:(dJ o).es.getD (i+k) []=jK v:=aC af;have av:J*V<=999999999*999999999:=Nat.mul_le_mul (by omega) (by omega);have ao:=Z7 (b:=bas) (by decide) af ah hV;have e1:IntKind.i64.wrap (IntKind.i64.wrap ((v:Int)+IntKind.i64.wrap ((J:Int)*(V:Int)))+(c:Int))=((v+J*V+c:Nat):Int):=by
       rw[show(J:Int)*(V:Int)=((J*V:Nat):Int)from(Int.natCast_mul J V).symm];generalize J*V=p at *;rw[show IntKind.i64.wrap (p:Int)=(p:Int)from bH (by omega),show IntKind.i64.wrap ((v:Int)+(p:Int))=(v:Int)+p from bH (by omega),bH (by omega)];omega
     have hq:(v+J*V+c)/1000000000<1000000000:=by omega
     have e2:IntKind.i64.wrap ((((v+J*V+c:Nat):Int)).tdiv 1000000000)=(((v+J*V+c)/1000000000:Nat):Int):=by
       generalize v+J*V+c=p at *;rw[Xbx (by omega),bH (by omega)];omega
     have e3:(((v+J*V+c:Nat):Int)).tmod 1000000000=(((v+J*V+c)%1000000000:Nat):Int):=by
       rw[Xch (by omega)];omega
     simp only[go_sem,h7,h9,ae,Y,ac,I,E,F,aa,X,ad,aC ah,b2,ei,Rj,b3,ag,e1,e2,e3];have O:i+k<(dJ o).es.length:=by simp only[dJ,Xaa];omega
     refine⟨rfl,⟨O,Nat.zero_lt_one⟩,by decide,rfl,dM so3 Rj ⟨O,rfl,Xah 1⟩ ?_⟩;generalize hP:aI H j _=HP;have aj:HP j=some (dJ (o.set (i+k) ((v+J*V+c)%bas))):=by
       rw[<-hP,aA];exact congrArg some (Fq (q:=(v+J*V+c)%bas) af)
     clear hP Rj;simp only[go_sem,h7,h9,ae,Y,ac,I,E,F,aa,X,ad,e2,aT (show k<=4611686018427387904 by omega)];refine⟨by decide,⟨k+1,_,_,U,rfl,rfl,aj,hO.set (Nat.mod_lt _ (by decide)),by simp[an],hq,ao,?_⟩,by simp only[aE];omega⟩;rw[List.getElem?_set_ne (by omega)];exact hZ
   . have ab:=geB hk ab
     subst ab;have ei:IntKind.i64.wrap ((i:Int)+(y.length:Int))=((i+y.length:Nat):Int):=by rw[bH (by omega)];omega
     have O:i+y.length<(dJ o).es.length:=by simp only[dJ,Xaa];omega
     have b3:0<=((i+y.length:Nat):Int)/\((i+y.length:Nat):Int)<((dJ o).es.length:Nat):=by omega
     have ag:(dJ o).es.getD (i+y.length) []=jK 0:=aC hZ;have e1:IntKind.i64.wrap (((0:Nat):Int)+(c:Int))=(c:Int):=by rw[bH (by omega)];omega
     simp only[go_sem,h7,h9,ae,Y,ac,I,E,F,aa,X,ad,Xaa,ei,Rj,b3,ag,e1];refine⟨rfl,⟨O,Nat.zero_lt_one⟩,rfl,dM so3 Rj ⟨O,rfl,Xah 1⟩ ?_⟩;generalize hP:aI H j _=HP;have aj:HP j=some (dJ (o.set (i+y.length) c)):=by
       rw[<-hP,aA];exact congrArg some (Fq (q:=c) hZ)
     clear hP Rj;have al:=aeJ (b:=bas) hZ hV;simp only[go_sem,h7,h9,ae,Y,ac,I,E,F,aa,X,ad,aT (show i<=4611686018427387904 by omega)];refine⟨⟨i+1,_,Z,rfl,aj,hO.set hc,by simp[an],?_⟩,by simp only[aE];omega⟩;rw[al,hv,lO bas ai,Nat.add_mul,Nat.mul_assoc]
 . have ak:=geB hi ak
   subst ak;simp only[go_sem,h9];rw[Xag,om,on]at hv;refine PC.useF [j] (.cons _ _ _ _ (.row _ _ _ (by simp only[Xbf,if_true];exact Rj) (ConvE.refl _)) .nil) (Kr ho (by omega) hv) ?_;simp only[go_sem];refine PC.use (Cg (m*n) (by omega)) ?_;simp only[go_sem];exact .refl _
end Nu
namespace Nu
open Go.Proofs.Tryz(prog)
open Go.Nu
open Go.RowKit (Below)
theorem Px(s:ByteArray):Lib.hasPrefix (bl s) [45]=kH s:=by
 unfold Lib.hasPrefix kH;cases bl s with
 | nil=>rfl
 | cons c r=>
   by_cases h:c=45
   . subst h;rfl
   . have h1:(some c == some (45:UInt8))=false:=by simpa using h
     have E:((45:UInt8) == c)=false:=by simpa using Ne.symm h
     simp only[List.isPrefixOf,List.head?_cons,h1,E,Bool.false_and]
theorem KI(s:ByteArray):(⟨(Lib.trimPrefix (bl s) [45]).toArray⟩:ByteArray)=fR s:=by
 unfold Lib.trimPrefix fR;rw[Px];split
 . rfl
 . exact axS s
theorem Ti(s:ByteArray):PC prog 184 [str s,str ⟨#[45]⟩] (.tup [str (fR s),boo (kH s)]):=by
 refine PC.lib (a:=[.string s,.string ⟨#[45]⟩]) (v:=.tuple #[.string (fR s),.bool (kH s)]) (fun S w=>⟨_,rfl,⟨_,_,rfl,rfl,⟨_,_,rfl,rfl,rfl⟩⟩⟩) fun w _=>(Tryz.strings_CutPrefix s ⟨#[45]⟩ w).mono fun e w' ⟨F,E⟩=>?_
 rw[E];refine⟨F.trans ?_,Below.refl _ _⟩;rw[show s.data.toList=bl s from rfl,show(⟨#[45]⟩:ByteArray).data.toList=[45]from rfl,KI,Px]
theorem Ad(s:ByteArray):PC prog 112 [str s,str ⟨#[45]⟩] (str (fR s)):=by
 refine PC.lib (a:=[.string s,.string ⟨#[45]⟩]) (v:=.string (fR s)) (fun S w=>rfl) fun w _=>(Tryz.strings_TrimPrefix s ⟨#[45]⟩ w).mono fun e w' ⟨F,E⟩=>?_
 rw[E];refine⟨F.trans ?_,Below.refl _ _⟩;rw[show s.data.toList=bl s from rfl,show(⟨#[45]⟩:ByteArray).data.toList=[45]from rfl,KI]
theorem TA(n:Int)(h0: -9223372036854775808<=n)(h1:n<=9223372036854775807):PC prog 224 [int n] (str (zed n)):=by
 refine PC.lib (a:=[.int .i64 n]) (v:=.string (zed n)) (fun S w=>rfl) fun w F=>(Tryz.strconv_Itoa n h0 h1 w (aaE F)).mono fun e w' ⟨E,k,os,I⟩=>?_
 rw[I];exact⟨E,oF k os⟩
theorem Sx(a b:ByteArray):PC prog 229 [str a,str b] (int (Lib.compareBytes (bl a) (bl b))):=by
 refine PC.lib (a:=[.string a,.string b]) (v:=.int .i64 (Lib.compareBytes (bl a) (bl b))) (fun S w=>rfl) fun w _=>(Tryz.strings_Compare a b w).mono fun e w' ⟨E,F⟩=>?_
 rw[F];exact⟨E,Below.refl _ _⟩
theorem Cy:(⟨#[48]⟩:ByteArray)=dec 0:=mZ (by rw[oD,Lib.decDigits_one (by omega)];rfl)
theorem FB:(⟨#[49]⟩:ByteArray)=dec 1:=mZ (by rw[oD,Lib.decDigits_one (by omega)];rfl)
theorem yX(s:ByteArray):(bl s == [48])=eqB s (dec 0):=by unfold eqB;rw[<-Cy];rfl
theorem TO(s:ByteArray):(bl s == [49])=eqB s (dec 1):=by unfold eqB;rw[<-FB];rfl
theorem MO(s:ByteArray):(fR s).size<=s.size:=by
 unfold fR;split
 . rw[<-gT,<-gT,kR,Xbw];omega
 . exact Xah _
theorem Co(s:ByteArray)(h:s.size<=1048576):PC prog 114 [str s] (.tup [boo (kH s),str (fR s),boo (gS s)]):=by
 refine pcd Tryz.func114 ?_;unfold Tryz.f114;simp only[gdS];simp only[go_sem];refine PC.use (Ti s) ?_;simp only[go_sem];refine PC.use (C4 (fR s) (by have:=MO s;omega)) ?_;simp only[go_sem,yX];exact .refl _
theorem YK(s:ByteArray)(h:s.size<=1048576):PC prog 107 [str s] (boo (gS s)):=by
 refine pcd Tryz.func107 ?_;unfold Tryz.f107;simp only[gdS];simp only[go_sem];refine PC.use (Co s h) ?_;simp only[go_sem];exact .refl _
theorem avJ(n:Int)(h0: -9223372036854775808<=n)(h1:n<=9223372036854775807):PC prog 165 [int n] (str (zed n)):=by
 refine pcd Tryz.func165 ?_;unfold Tryz.f165;simp only[gdS];simp only[go_sem];refine PC.use (TA n h0 h1) ?_;simp only[go_sem];exact .refl _
theorem alO(s:ByteArray)(h:s.size<=1048576):PC prog 65 [str s] (int (MZ s)):=by
 refine pcd Tryz.func65 ?_;unfold Tryz.f65;simp only[gdS];simp only[go_sem];refine PC.use (Co s h) ?_;simp only[go_sem,yX];refine aB (fun F=>?_) (fun F=>?_)
 . simp only[go_sem]
   refine cI ?_;unfold MZ;by_cases E:gS s=true
   . rw[if_pos E]
     have J:eqB (fR s) (dec 0)=true:=by rw[E]at F;simpa using F
     have:kT s=0:=by
       unfold kT;rw[uX.1 J,dG];split <;> rfl
     rw[this];rfl
   . rw[if_neg E]
 . have E:gS s=true/\eqB (fR s) (dec 0)=false:=by simpa using F
   have O:gY (fR s)=true:=by
     have:=E.1;unfold gS at this;simp only[Xak]at this;exact this.1
   have U:0<gM (fR s):=by
     rcases Xcr (gM (fR s))with h0|h0
     . have:=mN O
       rw[h0]at this;exact absurd this.symm (uA.1 E.2)
     . exact h0
   simp only[go_sem];refine aB (fun I=>?_) (fun I=>?_)
   . simp only[go_sem]
     refine cI ?_;unfold MZ kT;rw[if_pos E.1,if_pos I,Int.sign_eq_neg_one_of_neg (by omega)]
   . simp only[go_sem]
     refine cI ?_;unfold MZ kT;rw[if_pos E.1,if_neg (by rw[I];simp),Int.sign_eq_one_of_pos (by omega)]
def sg(m:Bool)(n:Nat):Int:=if m=true then -(n:Int)else n
theorem afU(m:Bool)(n:Nat):(if(m&& !eqB (dec n) (dec 0))=true then(⟨#[45]⟩:ByteArray)++dec n else dec n)=zed (sg m n):=by
 unfold sg;by_cases E:n=0
 . subst E
   rw[show eqB (dec 0) (dec 0)=true from uX.2 rfl];simp only[Xby,Bool.and_false,Xax,if_false];rw[<-gU];split <;> rfl
 . rw[show eqB (dec n) (dec 0)=false from uA.2 fun e=>E (xY.1 e)]
   cases m with
   | true=>
     simp only[Bool.not_false,Xbo,if_true];rw[CJ (by omega)];refine mZ ?_;rw[DM,kR,oD];rfl
   | false=>
     simp only[Bool.false_and,Xax,if_false];rw[gU]
theorem Rg(m:Bool)(n:Nat)(J:(dec n).size<=1048576):PC prog 170 [.agg [boo m,str (dec n)]] (str (zed (sg m n))):=by
 refine pcb (fun t=>t == 1) Tryz.func170 ?_;unfold Tryz.f170;simp only[gdS];simp only[go_sem];refine aL fun j O=>?_
 have R:=aA bV j (some ⟨208,2,[[boo m,str (dec n)]]⟩);generalize aI bV j _=H1 at R |-;simp only[go_sem,R];have E:=afU m n;have I:(m&& !bl (dec n) == [48])=(m&& !eqB (dec n) (dec 0)):=by rw[<-yX]
 rw[I];refine aB (fun F=>?_) (fun F=>?_)
 . rw[if_pos F]at E
   simp only[go_sem,R];refine⟨by show((1+(dec n).size:Nat):Int)<=9223372036854775807;omega,?_⟩;exact cS E
 . rw[if_neg (by rw[F];simp)]at E
   simp only[go_sem,R];exact cS E
theorem aaV(m:Bool)(n:Nat):(sg m n).natAbs=n:=by unfold sg;split <;> omega
theorem Hc(m:Bool)(n:Nat):PC prog 260 [.agg [boo m,str (szN n).1],int (szN n).2] (.tup [str (szZ (sg m n)).1,int (szZ (sg m n)).2]):=by
 by_cases E:n<dZ
 . have I:=(jR n).2 E
   rw[Dn E,show szZ (sg m n)=(zed (sg m n),0)from if_pos (by rw[aaV];exact E)];refine pcb (fun t=>t == 2) Tryz.func260 ?_;unfold Tryz.f260;simp only[gdS];simp only[go_sem];refine aL fun j J=>?_
   have R:=aA bV j (some ⟨208,2,[[boo m,str (dec n)]]⟩);generalize aI bV j _=H1 at R |-;simp only[go_sem,R];refine aB (fun F=>by cases F) (fun _=>?_);simp only[go_sem,R];refine PC.use (Rg m n (by omega)) ?_;simp only[go_sem];exact .refl _
 . rw[show szN n=(emp,4)from if_neg E,show szZ (sg m n)=(emp,4)from if_neg (by rw[aaV];exact E)]
   refine pcb (fun t=>t == 2) Tryz.func260 ?_;unfold Tryz.f260;simp only[gdS];simp only[go_sem];refine aL fun j J=>?_
   simp only[go_sem];refine aB (fun F=>?_) (fun F=>by cases F);simp only[go_sem];exact .refl _
def Fc(s:ByteArray):List AV:=[boo (kH s),str (fR s)]
theorem Nr(s:ByteArray):(Fc s).length=2:=(rfl)
theorem amT(s:ByteArray):(Fc s).getD 0 .any=boo (kH s):=(rfl)
theorem apU(s:ByteArray):(Fc s).getD 1 .any=str (fR s):=(rfl)
theorem Zj(s:ByteArray):(Fc s).take 2=Fc s:=(rfl)
attribute [go_sem] Nr amT apU Zj
def Fe(l:List ByteArray):Row:=⟨208,2,l.map Fc⟩
def Yp(s:ByteArray):Bool:=decide ((fR s).size>4096)
def IA(l:List ByteArray):Int:=if l.any (fun s=> !gS s)=true then 3 else if l.any Yp=true then 4 else 0
def zL(l:List ByteArray):List (List AV):=if IA l=0 then l.map Fc else[]
theorem MN{α:Type}{q:α->Bool}{l:List α}{k:Nat}{c:α}(h:l[k]?=some c)(E:q c=true):l.any q=true:=Xan.2 ⟨c,Xac h,E⟩
theorem GZ{α:Type}{q:α->Bool}{l:List α}(h:∀c∈l,q c=false):l.any q=false:=by
 rw[Xay];intro c E;rw[h c E];simp
theorem ahN(l:List ByteArray)(hl:l.length<=1048576)(hs:∀s∈l,s.size<=1048576):PC prog 166 [.sl (l.map Go.Aw.D.gR)] (.tup [.sl (zL l),int (IA l)]):=by
 refine pcb (fun t=>t == 4) Tryz.func166 ?_;unfold Tryz.f166;simp only[gdS];simp only[go_sem];refine aL fun j hj=>?_
 simp only[go_sem];refine⟨fun ρ H=>∃(k j:Nat),k<=l.length/\ρ 12=.sl (l.map Go.Aw.D.gR)/\ρ 13=int l.length/\ρ 4=.os j/\ρ 14=int k/\H j=some (Fe (l.take k))/\∀s∈l.take k,gS s=true,fun ρ _=>l.length-aV (ρ 14),
   ⟨0,j,Xab _,by simp only[go_sem],by simp only[go_sem,Xaa],by simp only[go_sem],by simp only[go_sem];rfl,aA _ _ _,by simp⟩,?_⟩
 clear hj j;rintro ρ H ⟨k,j,hk,U,O,I,V,Z,hz⟩;simp only[go_sem,U,O,I,V];refine aB (fun E=>?_) (fun J=>?_)
 . have E:=ltB E
   obtain⟨s,F⟩:=aN E;have b1:=inB E;simp only[go_sem,U,O,I,V,aC F,b1];refine PC.use (Co s (hs s (Xac F))) ?_;simp only[go_sem,U,O,I,V];refine aB (fun hb=>?_) (fun hb=>?_)
   . simp only[go_sem]
     have e:IA l=3:=by unfold IA;rw[if_pos (MN F hb)]
     rw[show zL l=[]from if_neg (by rw[e];decide),e];exact .refl _
   . simp only[go_sem,U,O,I,V]
     refine aZ Z ⟨rfl,rfl⟩ ⟨rfl,trivial⟩ (by simp only[Fe,Xaa,Xao,Xad,List.length_nil];omega) (fun j' ah=>?_);simp only[go_sem,U,O,I,V,aT (show k<=4611686018427387904 by omega)];refine⟨⟨k+1,j',E,rfl,rfl,?_,sW F (by simpa using hb) hz⟩,by simp only[aE];omega⟩;rw[aA];simp only[Fe,bQ F,Xar,Xbc,Xbs];rfl
 . have J:=geB hk J
   subst J;rw[Xag]at Z hz;have hR:l.any (fun s=> !gS s)=false:=GZ fun s hs=>by rw[hz s hs];rfl
   have ae:((Fe l).es.length:Int)=l.length:=by simp[Fe]
   simp only[go_sem,I,Z,ae];refine⟨fun ρ H=>∃(k:Nat),k<=l.length/\ρ 4=.os j/\ρ 33=.os j/\ρ 34=int l.length/\ρ 35=int k/\H j=some (Fe l)/\∀s∈l.take k,Yp s=false,fun ρ _=>l.length-aV (ρ 35),
     ⟨0,Xab _,by simp only[go_sem,I],by simp only[go_sem],by simp only[go_sem],by simp only[go_sem];rfl,Z,by simp⟩,?_⟩
   clear I Z U O V;rintro ρ H ⟨k,hk,I,X,Y,aa,Z,ac⟩;simp only[go_sem,I,X,Y,aa];refine aB (fun E=>?_) (fun J=>?_)
   . have E:=ltB E
     obtain⟨s,F⟩:=aN E;have b1:=inB E;have af:(Fe l).es.getD k []=Fc s:=aC F;have b2:0<=(k:Int)/\(k:Int)<((Fe l).es.length:Nat):=by simp only[Fe,Xaa];exact b1
     simp only[go_sem,I,X,Y,aa,Z,b2,af];have ab:k<(Fe l).es.length:=by simp only[Fe,Xaa];exact E
     refine⟨rfl,⟨ab,Xah 2⟩,?_⟩;refine aL fun i hi=>?_
     simp only[go_sem,I,X,Y,aa];have ad:j≠i:=aP Z hi;refine aH (aA _ _ _) (by simp[Nr]) ?_;generalize hG:aI (aI _ i _) i _=HG;have Ri:HG i=some (⟨208,2,[Fc s]⟩:Row):=by rw[<-hG,aA];rfl
     have ag:HG j=some (Fe l):=by rw[<-hG,aF _ _ _ _ ad,aF _ _ _ _ ad];exact Z
     clear hG hi Z;simp only[go_sem,I,X,Y,aa,Ri];have hd:decide (((fR s).size:Int)>4096)=Yp s:=by unfold Yp;rw[decide_eq_decide];omega
     rw[hd];refine aB (fun hb=>?_) (fun hb=>?_)
     . simp only[go_sem]
       have e:IA l=4:=by unfold IA;rw[if_neg (by rw[hR];simp),if_pos (MN F hb)]
       rw[show zL l=[]from if_neg (by rw[e];decide),e];exact .refl _
     . simp only[go_sem,I,X,Y,aa,aT (show k<=4611686018427387904 by omega)]
       exact⟨⟨k+1,E,rfl,ag,sW F hb ac⟩,by simp only[aE];omega⟩
   . have J:=geB hk J
     subst J;rw[Xag]at ac;simp only[go_sem,I];have e:IA l=0:=by unfold IA;rw[if_neg (by rw[hR];simp),if_neg (by rw[GZ ac];simp)]
     rw[show zL l=l.map Fc from if_pos e,e];exact .tup _ _ (.cons _ _ _ _ (.row _ _ _ Z (ConvE.refl _)) (ConvL.refl _))
end Nu
namespace Nu
open Go.Proofs.Tryz(prog)
open Go.Nu
theorem KN:∀{l r:List UInt8},l.all isD=true->r.all isD=true->l.length=r.length->Lib.compareBytes l r=jY (iR l) (iR r)
 | [],[],_,_,_=>by rw[uM rfl];rfl
 | [],_::_,_,_,h=>by simp at h
 | _::_,[],_,_,h=>by simp at h
 | a::l,b::r,hl,hr,h=>by
   simp only[List.all_cons,Xak]at hl hr;simp only[Xad,Nat.add_right_cancel_iff]at h;have ih:=KN hl.2 hr.2 h;have X:iR (a::l)=(a.toNat-48)*10^l.length+iR l:=by
     have:=AU [a] l;simpa[iR]using this
   have J:iR (b::r)=(b.toNat-48)*10^r.length+iR r:=by
     have:=AU [b] r;simpa[iR]using this
   have h1:=Ft hl.2;have Z:=Ft hr.2;have da:=sL.1 hl.1;have db:=sL.1 hr.1;rw[Lib.compareBytes,X,J,<-h]at *;have I:a<b↔a.toNat<b.toNat:=UInt8.lt_iff_toNat_lt;have F:b<a↔b.toNat<a.toNat:=UInt8.lt_iff_toNat_lt;split
   . rename_i E
     rw[I]at E;have:(a.toNat-48+1)*10^l.length<=(b.toNat-48)*10^l.length:=Nat.mul_le_mul_right _ (by omega);rw[Nat.add_mul]at this;rw[kL (by omega)]
   . split
     . rename_i E
       rw[F]at E;have:(b.toNat-48+1)*10^l.length<=(a.toNat-48)*10^l.length:=Nat.mul_le_mul_right _ (by omega);rw[Nat.add_mul]at this;rw[kK (by omega)]
     . rename_i O U
       rw[I]at O;rw[F]at U;have:a.toNat=b.toNat:=by omega
       rw[ih,this];generalize (b.toNat-48)*10^l.length=p;unfold jY;have Y:(((p+iR l:Nat):Int)<((p+iR r:Nat):Int))↔((iR l:Nat):Int)<((iR r:Nat):Int):=by omega
       have V:(((p+iR r:Nat):Int)<((p+iR l:Nat):Int))↔((iR r:Nat):Int)<((iR l:Nat):Int):=by omega
       simp only[Y,V]
theorem Hw(m n:Nat):PC prog 171 [str (dec m),str (dec n)] (int (jY m n)):=by
 have J:=HC m;have I:=HC n;have E:∀{p q:Nat},(Lib.decDigits p).length<(Lib.decDigits q).length->p<q:=fun {p q} h=>by
   have h1:=(uB (n:=p) (k:=(Lib.decDigits p).length) (uL p)).1 (Xah _);rcases Xbk p q with F|F
   . exact F
   . have:=(uB (n:=q) (k:=(Lib.decDigits p).length) (uL p)).2 (by omega)
     omega
 refine pcd Tryz.func171 ?_;unfold Tryz.f171;simp only[gdS];simp only[go_sem];refine aB (fun h=>?_) (fun h=>?_)
 . have h:(dec m).size≠(dec n).size:=neN h
   simp only[go_sem];refine aB (fun F=>?_) (fun F=>?_)
   . have F:=ltB F
     simp only[go_sem];have:=E (p:=m) (q:=n) (by omega);exact cI (by rw[kL (by omega)])
   . have F:¬(dec m).size<(dec n).size:=by have:=of_decide_eq_false F;omega
     simp only[go_sem];have:=E (p:=n) (q:=m) (by omega);exact cI (by rw[kK (by omega)])
 . have h:(dec m).size=(dec n).size:=eqN h
   simp only[go_sem];refine PC.use (Sx (dec m) (dec n)) ?_;simp only[go_sem];refine cI ?_;rw[oD,oD,KN (CU m) (CU n) (by omega),GK,GK]
theorem FC(a b:ByteArray)(E:gY a=true)(F:gY b=true):PC prog 171 [str a,str b] (int (jY (gM a) (gM b))):=by
 have:=Hw (gM a) (gM b)
 rwa [mN E,mN F]at this
theorem DU{s:ByteArray}(h:gS s=true):gY (fR s)=true:=by
 unfold gS at h;simp only[Xak]at h;exact h.1
theorem SG(a b:ByteArray)(U:a.size<=1048576)(V:b.size<=1048576):PC prog 102 [str a,str b] (int (aaQ a b)):=by
 refine pcd Tryz.func102 ?_;unfold Tryz.f102;simp only[gdS];simp only[go_sem];refine PC.use (Co a U) ?_;simp only[go_sem];refine PC.use (Co b V) ?_;simp only[go_sem];refine aB (fun h=>?_) (fun h=>?_)
 . simp only[go_sem]
   refine cI ?_;unfold aaQ;rw[if_neg];rintro⟨h1,E⟩;rw[h1,E]at h;cases h
 have O:gS a=true/\gS b=true:=by simpa using h
 have ra:=DU O.1;have rb:=DU O.2;have I:∀{s:ByteArray},gS s=true->kH s=true->0<gM (fR s):=fun {s} h1 E=>by
   have F:=h1;unfold gS at F;simp only[E,Xbl,Xak,Xbb,uA]at F;rcases Xcr (gM (fR s))with h0|h0
   . have:=mN F.1
     rw[h0]at this;exact absurd this.symm F.2
   . exact h0
 have Z:aaQ a b=jY (kT a) (kT b):=if_pos O;rw[Z];unfold kT;simp only[go_sem];refine aB (fun E=>?_) (fun E=>?_)
 . have E:kH a=true/\kH b=true:=by simpa using E
   simp only[go_sem];refine PC.use (FC _ _ rb ra) ?_;simp only[go_sem];refine cI ?_;rw[if_pos E.1,if_pos E.2];unfold jY;have X:(((gM (fR b):Nat):Int)<((gM (fR a):Nat):Int))↔(-((gM (fR a):Nat):Int)< -((gM (fR b):Nat):Int)):=by omega
   have Y:(((gM (fR a):Nat):Int)<((gM (fR b):Nat):Int))↔(-((gM (fR b):Nat):Int)< -((gM (fR a):Nat):Int)):=by omega
   simp only[X,Y]
 . simp only[go_sem]
   refine aB (fun F=>?_) (fun F=>?_)
   . have J:kH b=false:=by rw[F]at E;simpa using E
     have:=I O.1 F;simp only[go_sem];refine cI ?_;rw[if_pos F,if_neg (by rw[J];simp),kL (by omega)]
   . simp only[go_sem]
     refine aB (fun J=>?_) (fun J=>?_)
     . have:=I O.2 J
       simp only[go_sem];refine cI ?_;rw[if_neg (by rw[F];simp),if_pos J,kK (by omega)]
     . simp only[go_sem]
       refine PC.use (FC _ _ ra rb) ?_;simp only[go_sem];refine cI ?_;rw[if_neg (by rw[F];simp),if_neg (by rw[J];simp)]
def kP(m:Bool)(n:Nat):List AV:=[boo m,str (dec n)]
theorem Dp(m:Bool)(n:Nat):(kP m n).length=2:=(rfl)
theorem ahT(m:Bool)(n:Nat):(kP m n).getD 0 .any=boo m:=(rfl)
theorem akO(m:Bool)(n:Nat):(kP m n).getD 1 .any=str (dec n):=(rfl)
theorem WK(m:Bool)(n:Nat):(kP m n).take 2=kP m n:=(rfl)
attribute [go_sem] Dp ahT akO WK
theorem OX{m n:Nat}(F:m<dZ)(E:n<dZ):RH (dec m) (dec n)=szN (m+n):=by unfold RH;rw[if_pos (AW F E),dG,dG]
theorem PA{m n:Nat}(F:m<dZ)(E:n<dZ)(h:n<=m):Rk (dec m) (dec n)=szN (m-n):=by unfold Rk;rw[if_pos (AW F E),dG,dG,if_neg (by omega)]
theorem fX{m:Nat}(E:m<dZ):(dec m).size<=1048576:=by have:=(jR m).2 E;omega
theorem alQ(a b:Bool)(m n:Nat)(Z:m<dZ)(hn:n<dZ):PC prog 223 [.agg (kP a m),.agg (kP b n)] (.tup [str (szZ (sg a m+sg b n)).1,int (szZ (sg a m+sg b n)).2]):=by
 refine pcb (fun t=>t == 2||t == 3) Tryz.func223 ?_;unfold Tryz.f223;simp only[gdS];simp only[go_sem];refine aL fun i hi=>?_
 simp only[go_sem];refine aL fun j hj=>?_
 have I:=aA bV i (some ⟨208,2,[kP a m]⟩);have U:i≠j:=aP I hj;have F:=aA (aI bV i (some ⟨208,2,[kP a m]⟩)) j (some ⟨208,2,[kP b n]⟩);have E:(aI (aI bV i (some ⟨208,2,[kP a m]⟩)) j (some ⟨208,2,[kP b n]⟩)) i=some ⟨208,2,[kP a m]⟩:=by rw[aF _ _ _ _ U];exact I
 generalize aI (aI bV i _) j _=H1 at *;clear I;simp only[go_sem,E,F];refine aB (fun h=>?_) (fun h=>?_)
 . have V:a=b:=by simpa using h
   subst V;simp only[go_sem,E,F];refine PC.use (Y0 (dec m) (dec n) (fX Z) (fX hn)) ?_;rw[OX Z hn];simp only[go_sem,E,F];refine PC.use (Hc a (m+n)) ?_;simp only[go_sem];have e:sg a (m+n)=sg a m+sg a n:=by unfold sg;split <;> omega
   rw[e];exact .refl _
 have V:b= !a:=by cases a <;> cases b <;> simp_all
 subst V;simp only[go_sem,E,F];refine PC.use (Hw m n) ?_;simp only[go_sem,E,F];refine bK (fun Y H'=>∃(a' b':Bool) (p q:Nat),p<dZ/\q<dZ/\q<=p/\sg a' (p-q)=sg a m+sg (!a) n/\Y 2=.op i 0 0/\Y 3=.op j 0 0/\H' i=some (⟨208,2,[kP a' p]⟩:Row)/\H' j=some (⟨208,2,[kP b' q]⟩:Row)) ?_ fun K hK=>aB (fun J=>?_) (fun J=>?_)
 rotate_left
 . have ac : m < n := by
     rcases Xbk m n with h|h
     . exact h
     . exfalso
       have J:=of_decide_eq_true J;unfold jY at J;rw[if_neg (by omega)]at J;split at J <;> omega
   simp only[go_sem,E,F];refine aH E (by simp[Dp]) ?_;generalize O:aI H1 i _=HP;have I:HP i=some (⟨208,2,[kP (!a) n]⟩:Row):=by rw[<-O,aA];rfl
   have X:HP j=some (⟨208,2,[kP (!a) n]⟩:Row):=by rw[<-O,aF _ _ _ _ (Ne.symm U)];exact F
   clear O;simp only[go_sem,I,X];refine aH X (by simp[Dp]) ?_;generalize O:aI HP j _=HQ;have S3:HQ j=some (⟨208,2,[kP a m]⟩:Row):=by rw[<-O,aA];rfl
   have S2:HQ i=some (⟨208,2,[kP (!a) n]⟩:Row):=by rw[<-O,aF _ _ _ _ U];exact I
   clear O;simp only[go_sem];refine hK _ _ ⟨!a,a,n,m,hn,Z,by omega,?_,by simp only[go_sem],by simp only[go_sem],S2,S3⟩;unfold sg;cases a <;> simp <;> omega
 . have ab : n <= m := by
     rcases Xbk m n with h|h
     . exact absurd (by rw[kL (by omega)];decide) (of_decide_eq_false J)
     . exact h
   simp only[go_sem];refine hK _ _ ⟨a,!a,m,n,Z,hn,ab,?_,by simp only[go_sem],by simp only[go_sem],E,F⟩;unfold sg;cases a <;> simp <;> omega
 clear E F;rintro ρ H ⟨a',b',p,q,hp,hq,aa,hv,h2,h3,I,F⟩;simp only[go_sem,h2,h3,I,F];refine PC.use (ZO (dec p) (dec q) (fX hp) (fX hq)) ?_;rw[PA hp hq aa];simp only[go_sem,h2,h3,I,F];refine PC.use (Hc a' (p-q)) ?_;simp only[go_sem];rw[hv];exact .refl _
theorem PM(a b:ByteArray):IA [a,b]=pV a b:=by
 unfold IA pV Yp;simp only[List.any_cons,List.any_nil,Bool.or_false]
theorem XX(n:Int):Fc (zed n)=kP (decide (n<0)) n.natAbs:=by
 unfold Fc kP;rw[BQ,pL]
theorem L1(n:Int):sg (decide (n<0)) n.natAbs=n:=by
 unfold sg;by_cases h:n<0
 . simp[h];omega
 . simp[h];omega
theorem L3{m n:Int}(h:pV (zed m) (zed n)=0):zL [zed m,zed n]=[kP (decide (m<0)) m.natAbs,kP (decide (n<0)) n.natAbs]:=by
 unfold zL;rw[PM,if_pos h];simp only[Xbc,Xbs,XX]
theorem CT(a b:ByteArray)(E:a.size<=1048576)(F:b.size<=1048576):PC prog 166 [.sl [[str a],[str b]]] (.tup [.sl (zL [a,b]),int (pV a b)]):=by
 have:=ahN [a,b] (by simp) (by simp[E,F])
 rwa [PM]at this
theorem apV(a b:ByteArray)(E:a.size<=1048576)(I:b.size<=1048576):PC prog 222 [str a,str b] (.tup [str (XU a b).1,int (XU a b).2]):=by
 refine pcd Tryz.func222 ?_;unfold Tryz.f222;simp only[gdS];simp only[go_sem];refine PC.use (CT a b E I) ?_;simp only[go_sem];refine aB (fun h=>?_) (fun h=>?_)
 . have h:pV a b≠0:=by simpa using h
   simp only[go_sem];rw[show XU a b=(emp,pV a b)from if_neg h];exact .refl _
 have h:pV a b=0:=by simpa using h
 have e:XU a b=szZ (kT a+kT b):=if_pos h;rw[e];obtain⟨m,n,rfl,rfl,J,F⟩:=A1 h;rw[dS,dS,L3 h];simp only[go_sem];refine cN (by rfl) (by kernel_rfl) ?_;simp only[go_sem,Xad,List.length_nil]
 repeat (refine⟨by first|decide|omega,?_⟩)
 refine⟨_,(alQ _ _ _ _ J F).q rfl,?_⟩;simp only[go_sem];rw[L1,L1];exact .refl _
theorem apZ(a b:ByteArray)(F:a.size<=1048576)(J:b.size<=1048576):PC prog 164 [str a,str b] (.tup [str (W0 a b).1,int (W0 a b).2]):=by
 refine pcd Tryz.func164 ?_;unfold Tryz.f164;simp only[gdS];simp only[go_sem];refine PC.use (CT a b F J) ?_;simp only[go_sem];refine aB (fun h=>?_) (fun h=>?_)
 . have h:pV a b≠0:=by simpa using h
   simp only[go_sem];rw[show W0 a b=(emp,pV a b)from if_neg h];exact .refl _
 have h:pV a b=0:=by simpa using h
 have e:W0 a b=szZ (kT a-kT b):=if_pos h;rw[e];obtain⟨m,n,rfl,rfl,O,I⟩:=A1 h;rw[dS,dS,L3 h];simp only[go_sem];refine cN (by rfl) (by kernel_rfl) ?_;simp only[go_sem,Xad,List.length_nil]
 repeat (refine⟨by first|decide|omega,?_⟩)
 have E:sg (!decide (n<0)) n.natAbs= -n:=by
   unfold sg;by_cases h:n<0
   . simp[h];omega
   . simp[h];omega
 refine⟨_,(alQ _ (!decide (n<0)) _ _ O I).q rfl,?_⟩;simp only[go_sem];rw[L1,E,Int.sub_eq_add_neg];exact .refl _
theorem adN{m n:Nat}(F:m<dZ)(E:n<dZ):SO (dec m) (dec n)=szN (m*n):=by unfold SO;rw[if_pos (AW F E),dG,dG]
theorem apJ(a b:ByteArray)(J:a.size<=1048576)(U:b.size<=1048576):PC prog 259 [str a,str b] (.tup [str (AG a b).1,int (AG a b).2]):=by
 refine pcd Tryz.func259 ?_;unfold Tryz.f259;simp only[gdS];simp only[go_sem];refine PC.use (CT a b J U) ?_;simp only[go_sem];refine aB (fun h=>?_) (fun h=>?_)
 . have h:pV a b≠0:=by simpa using h
   simp only[go_sem];rw[show AG a b=(emp,pV a b)from if_neg h];exact .refl _
 have h:pV a b=0:=by simpa using h
 have e:AG a b=szZ (kT a*kT b):=if_pos h;rw[e];obtain⟨m,n,rfl,rfl,I,F⟩:=A1 h;rw[dS,dS,L3 h];simp only[go_sem];refine cN (by rfl) (by kernel_rfl) ?_;simp only[go_sem,Xad,List.length_nil]
 repeat (refine⟨by first|decide|omega,?_⟩)
 refine⟨_,(aoJ (dec m.natAbs) (dec n.natAbs) (fX I) (fX F)).q rfl,?_⟩;rw[adN I F];simp only[go_sem];refine cN (by rfl) (by kernel_rfl) ?_;simp only[go_sem,Xad,List.length_nil]
 repeat (refine⟨by first|decide|omega,?_⟩)
 refine⟨_,(Hc _ (m.natAbs*n.natAbs)).q rfl,?_⟩;simp only[go_sem];have O:sg (!(decide (m<0) == decide (n<0))) (m.natAbs*n.natAbs)=m*n:=by
   unfold sg;rw[Int.natCast_mul];by_cases h1:m<0 <;> by_cases E:n<0
   . simp only[h1,E,decide_true,beq_self_eq_true,Xby,Xax,if_false]
     rw[Xce (by omega),Xce (by omega),Int.neg_mul_neg]
   . simp only[h1,E,decide_true,decide_false]
     rw[if_pos (show(!(true == false))=true from rfl),Xce (by omega),Xcf (by omega),Int.neg_mul,Int.neg_neg]
   . simp only[h1,E,decide_true,decide_false]
     rw[if_pos (show(!(false == true))=true from rfl),Xce (a:=n) (by omega),Xcf (by omega),Int.mul_neg,Int.neg_neg]
   . simp only[h1,E,decide_false,beq_self_eq_true,Xby,Xax,if_false]
     rw[Xcf (by omega),Xcf (by omega)]
 rw[O];exact .refl _
theorem B7{P:Program}{C:mD}{PC:FuncId->List AV->aK->AV->Prop}{mt:Nat->Bool}{ops:Array Oper}{K:Env->aK->Prop}{m:Nat}{ρ:Env}{H:aK}(J:Env->aK->Prop)(h1:∀ρ H,J ρ H->K ρ H)
 (E:∀K':Env->aK->Prop,(∀ρ H,J ρ H->K' ρ H)->uY P C PC mt ops K' m ρ H):uY P C PC mt ops K m ρ H:=E K h1
abbrev D0(A:List AV):Row:=⟨208,2,[A]⟩
abbrev zN:Row:=D0 [.v (.bool false),.v (.string ByteArray.empty)]
theorem CD{A:List AV}(h:A.length=2):(⟨208,2,[List.take 2 A++List.drop (List.take 2 A).length [AV.v (.bool false),AV.v (.string ByteArray.empty)]]⟩:Row)=D0 A:=by
 rw[Xap (by omega),h];simp
theorem OK{m n:Int}(J:n≠0)(F:decide (m<0)≠decide (n<0))(V:m.natAbs%n.natAbs≠0):
   m.fdiv n= -((m.natAbs/n.natAbs+1:Nat):Int)/\m.fmod n=sg (decide (n<0)) (n.natAbs-m.natAbs%n.natAbs):=by
 have e:=Nat.mod_add_div m.natAbs n.natAbs;have U:=Nat.mod_lt m.natAbs (show 0<n.natAbs by omega);generalize m.natAbs/n.natAbs=q at *;generalize m.natAbs%n.natAbs=r at *;have I:(r:Int)+(n.natAbs:Int)*(q:Int)=(m.natAbs:Int):=by rw[<-Int.natCast_mul,<-Int.natCast_add,e]
 unfold sg;rcases Int.lt_or_gt_of_ne J with h|h
 . have O:¬m<0:=fun E=>F (by simp[h,E])
   rw[Xce (a:=n) (by omega),Xcf (a:=m) (by omega)]at I;refine(Int.fdiv_fmod_unique' h).2 ⟨?_,?_,?_⟩
   . rw[if_pos (by simpa using h)]
     have:(n* -((q+1:Nat):Int))= -n*q-n:=by grind
     rw[this];omega
   . rw[if_pos (by simpa using h)];omega
   . rw[if_pos (by simpa using h)];omega
 . have O : m < 0 := by
     rcases Int.lt_or_le m 0 with E|E
     . exact E
     . exact absurd (by simp;omega) F
   rw[Xcf (a:=n) (by omega),Xce (a:=m) (by omega)]at I;refine(Int.fdiv_fmod_unique h).2 ⟨?_,?_,?_⟩
   . rw[if_neg (by simp;omega)]
     have:(n* -((q+1:Nat):Int))= -(n*q)-n:=by grind
     rw[this];omega
   . rw[if_neg (by simp;omega)];omega
   . rw[if_neg (by simp;omega)];omega
theorem Ww{m n:Int}(J:n≠0)(h0:decide (m<0)=decide (n<0)\/m.natAbs%n.natAbs=0):
   m.fdiv n=sg (!(decide (m<0) == decide (n<0))) (m.natAbs/n.natAbs)/\m.fmod n=sg (decide (n<0)) (m.natAbs%n.natAbs):=by
 have e:=Nat.mod_add_div m.natAbs n.natAbs;have U:=Nat.mod_lt m.natAbs (show 0<n.natAbs by omega);generalize m.natAbs/n.natAbs=q at *;generalize m.natAbs%n.natAbs=r at *;have I:(r:Int)+(n.natAbs:Int)*(q:Int)=(m.natAbs:Int):=by rw[<-Int.natCast_mul,<-Int.natCast_add,e]
 unfold sg;rcases Int.lt_or_gt_of_ne J with h|h
 . rw[Xce (a:=n) (by omega)]at I
   refine(Int.fdiv_fmod_unique' h).2 ?_;by_cases F:m<0
   . rw[Xce (a:=m) (by omega)]at I
     simp only[h,F,decide_true,beq_self_eq_true,Xby,Xax,if_false,if_true];have:n*(q:Int)= -(-n*q):=by grind
     exact⟨by rw[this];omega,by omega,by omega⟩
   . rw[Xcf (a:=m) (by omega)]at I
     have O:r=0:=by
       rcases h0 with h0|h0
       . simp[h,F]at h0
       . exact h0
     simp only[h,F,decide_true,decide_false,show(!(false == true))=true from rfl,if_true];have:n* -(q:Int)= -n*q:=by grind
     exact⟨by rw[this];omega,by omega,by omega⟩
 . rw[Xcf (a:=n) (by omega)]at I
   refine(Int.fdiv_fmod_unique h).2 ?_;have E:¬n<0:=by omega
   by_cases F:m<0
   . rw[Xce (a:=m) (by omega)]at I
     have O:r=0:=by
       rcases h0 with h0|h0
       . simp[E,F]at h0
       . exact h0
     simp only[E,F,decide_true,decide_false,show(!(true == false))=true from rfl,if_true,Xax,if_false];have:n* -(q:Int)= -(n*q):=by grind
     exact⟨by rw[this];omega,by omega,by omega⟩
   . rw[Xcf (a:=m) (by omega)]at I
     simp only[E,F,decide_false,beq_self_eq_true,Xby,Xax,if_false];exact⟨by omega,by omega,by omega⟩
theorem acZ{m n:Nat}(F:m<dZ)(E:n<dZ)(h:n≠0):Oa (dec m) (dec n)=(dec (m/n),dec (m%n),0):=by unfold Oa;rw[if_pos (AW F E),dG,dG,if_neg h]
theorem Mb(a b:ByteArray)(ha:a.size<=1048576)(F:b.size<=1048576):PC prog 101 [str a,str b] (.tup [str (Fa a b).1,str (Fa a b).2.1,int (Fa a b).2.2]):=by
 refine pcd Tryz.func101 ?_;unfold Tryz.f101;simp only[gdS];simp only[go_sem];refine PC.use (CT a b ha F) ?_;simp only[go_sem];refine aB (fun h=>?_) (fun h=>?_)
 . have h:pV a b≠0:=by simpa using h
   simp only[go_sem];rw[show Fa a b=(emp,emp,pV a b)from if_neg h];exact .refl _
 have h:pV a b=0:=by simpa using h
 obtain⟨m,n,rfl,rfl,X,hn⟩:=A1 h;have e:Fa (zed m) (zed n)=if n=0 then(emp,emp,10)else(zed (m.fdiv n),zed (m.fmod n),0):=by unfold Fa;rw[if_pos h,dS,dS]
 rw[e,L3 h];simp only[go_sem];obtain⟨A,hA⟩:∃A,kP (decide (m<0)) m.natAbs=A:=⟨_,rfl⟩;obtain⟨B,hB⟩:∃B,kP (decide (n<0)) n.natAbs=B:=⟨_,rfl⟩;have aa:A.length=2:=by rw[<-hA];rfl
 have Z:B.length=2:=by rw[<-hB];rfl
 refine B7 (fun U H'=>∃i j,U 9=.op i 0 0/\U 10=.op j 0 0/\H' i=some (D0 A)/\H' j=some (D0 B)) ?_ fun K hK=>?_
 rotate_left
 . refine LD [] (.q 0 (.q 1 (.q 2 (.q 3 (.q 4 (.q 5 (.a2 6 (.a1 7 (.a1 8 (.a1 9 .nil))) 7 (.a1 6 (.a1 8 (.a1 9 .nil)))))))))) (by simp) (by kernel_rfl) fun Hp Hr _ hq _ _=>?_
   simp only[go_sem,Xad,List.length_nil,hA,hB]
   repeat (refine⟨by first|decide|omega,?_⟩)
   refine wX ?_ ?_
   . simp only[go_sem]
     refine aL fun i hi=>?_
     simp only[go_sem];refine aL fun j hj=>?_
     have R:=aA Hr i (some (zN));have V:=aP R hj;have J:=eZ (r':=zN) R hj;have I:=aA (aI Hr i (some (zN))) j (some (zN));simp only[go_sem];refine aH (r:=zN) J (by simp[aa]) ?_;simp only[go_sem];refine aH (r:=zN) (by rw[aF _ _ _ _ V.symm];exact I) (by simp[Z]) ?_;simp only[go_sem];refine iO fun _ Hm _ X=>hK _ _ ⟨i,j,by simp only[go_sem],by simp only[go_sem],?_,?_⟩
     . rw[X i (by simp),aF _ _ _ _ V,aA];exact congrArg some (CD aa)
     . rw[X j (by simp),aA];exact congrArg some (CD Z)
   . simp only[go_sem]
     refine aL fun j hj=>?_
     simp only[go_sem];refine aL fun i hi=>?_
     have R:=aA Hr j (some (zN));have V:=(aP R hi).symm;have I:=eZ (r':=zN) R hi;have J:=aA (aI Hr j (some (zN))) i (some (zN));simp only[go_sem];refine aH (r:=zN) J (by simp[aa]) ?_;simp only[go_sem];refine aH (r:=zN) (by rw[aF _ _ _ _ V.symm];exact I) (by simp[Z]) ?_;simp only[go_sem];refine iO fun _ Hm _ X=>hK _ _ ⟨i,j,by simp only[go_sem],by simp only[go_sem],?_,?_⟩
     . rw[X i (by simp),aF _ _ _ _ V,aA];exact congrArg some (CD aa)
     . rw[X j (by simp),aA];exact congrArg some (CD Z)
 rintro ρ H ⟨i,j,O,E,J,I⟩;subst hA hB;simp only[go_sem,O,E,J,I,yX];refine aB (fun ab=>?_) (fun ab=>?_)
 . have h0 : n = 0 := by
     have:=xY.1 (uX.1 ab);omega
   simp only[go_sem];rw[if_pos h0];exact .refl _
 have h0:n≠0:=fun e=>by
   subst e;exact uA.1 ab rfl
 have ah:n.natAbs≠0:=by omega
 rw[if_neg h0];simp only[go_sem,O,E,J,I];refine PC.use (apA (dec m.natAbs) (dec n.natAbs) (fX X) (fX hn)) ?_;rw[acZ X hn ah];simp only[go_sem,O,E,J,I];refine aB (fun F=>by cases F) (fun _=>?_);simp only[go_sem,O,E,J,I,yX];have aj:=Nat.mod_add_div m.natAbs n.natAbs;have ai:=Nat.mod_lt m.natAbs (show 0<n.natAbs by omega);refine bK (fun U H'=>∃q r:Nat,U 9=.op i 0 0/\U 10=.op j 0 0/\H' i=some (D0 (kP (decide (m<0)) m.natAbs))/\H' j=some (D0 (kP (decide (n<0)) n.natAbs))/\U 11=str (dec q)/\U 12=str (dec r)/\q<dZ/\r<dZ/\sg (!(decide (m<0) == decide (n<0))) q=m.fdiv n/\sg (decide (n<0)) r=m.fmod n) ?_ fun K hK=>aB (fun F=>?_) (fun F=>?_)
 rotate_left
 . have F : decide (m < 0) ≠ decide (n < 0) /\ m.natAbs % n.natAbs ≠ 0 := by
     simp only[Xak,Xbb,beq_eq_false_iff_ne,ne_eq,uA]at F;exact⟨F.1,fun e=>F.2 (by rw[e])⟩
   obtain⟨f1,f2⟩:=OK h0 F.1 F.2;have ac:m.natAbs/n.natAbs+1<dZ:=by
     have h2:2<=n.natAbs:=by omega
     have h3:2*(m.natAbs/n.natAbs)<=n.natAbs*(m.natAbs/n.natAbs):=Nat.mul_le_mul_right _ h2;omega
   have Y:m.natAbs/n.natAbs<dZ:=by omega
   have ag:(1:Nat)<dZ:=Nat.lt_of_le_of_lt (Nat.le_add_left 1 _) ac;have af:m.natAbs%n.natAbs<dZ:=by omega
   generalize hQ:m.natAbs/n.natAbs=q at *;generalize hR:m.natAbs%n.natAbs=r at *;simp only[go_sem,O,E];rw[FB];refine PC.use (Y0 (dec q) (dec 1) (fX Y) (fX ag)) ?_;rw[OX Y ag,Dn ac];simp only[go_sem,O,E,J,I];refine aB (fun F=>by cases F) (fun _=>?_);simp only[go_sem,O,E,J,I];refine PC.use (ZO (dec n.natAbs) (dec r) (fX hn) (fX af)) ?_;rw[PA hn af (by omega),Dn (show n.natAbs-r<dZ by omega)];simp only[go_sem,O,E,J,I];refine aB (fun F=>by cases F) (fun _=>?_);simp only[go_sem,O,E];refine hK _ _ ⟨q+1,n.natAbs-r,by simp only[go_sem,O],by simp only[go_sem,E],J,I,by simp only[go_sem],by simp only[go_sem],ac,by omega,?_,f2.symm⟩;rw[f1];unfold sg;rw[if_pos (by simpa using F.1)]
 . have F : decide (m < 0) = decide (n < 0) \/ m.natAbs % n.natAbs = 0 := by
     by_cases h1:decide (m<0)=decide (n<0)
     . exact .inl h1
     . refine .inr ?_
       have h2:(!(decide (m<0) == decide (n<0)))=true:=by simpa using h1
       rw[h2,Xbl,Xcg]at F;exact xY.1 (uX.1 F)
   obtain⟨f1,f2⟩:=Ww h0 F;have Y:m.natAbs/n.natAbs<dZ:=Nat.lt_of_le_of_lt (Xcn _ _) X;simp only[go_sem,O,E];exact hK _ _ ⟨_,_,by simp only[go_sem,O],by simp only[go_sem,E],J,I,by simp only[go_sem],by simp only[go_sem],Y,by omega,f1.symm,f2.symm⟩
 clear O E J I;rintro ρ H ⟨q,r,O,E,J,I,ae,ad,hq,hr,f1,f2⟩;simp only[go_sem];refine cN (by rfl) (by kernel_rfl) ?_;simp only[go_sem,O,E,ae,ad,J,I];refine⟨_,(Rg _ q (fX hq)).q rfl,?_⟩;simp only[go_sem,O,E,ae,ad,J,I];refine⟨_,(Rg _ r (fX hr)).q rfl,?_⟩;simp only[go_sem,f1,f2];exact .refl _
end Nu
namespace Nu
open Go.Proofs.Tryz(prog)
open Go.Nu
open Go.RowKit (Below)
theorem Dw:∀l:List UInt8,Lib.indexByte l 47=if l.any (· == fD)=true then((l.takeWhile (· != fD)).length:Int)else -1
 | []=>rfl
 | c::l=>by
   have ih:=Dw l;unfold Lib.indexByte;by_cases h:c=fD
   . subst h;rfl
   . have h1:(c == (47:UInt8))=false:=by simpa[fD]using h
     have E:(c == fD)=false:=by simpa using h
     have F:(c != fD)=true:=by simpa using h
     rw[h1,ih,List.any_cons,E,Xbp,F];simp only[Xax,if_false,Xbm,if_true];split
     . rw[if_neg (by simp)]
       simp
     . rfl
theorem Fz{α:Type}(p:α->Bool):∀l:List α,l.take (l.takeWhile p).length=l.takeWhile p
 | []=>rfl
 | a::l=>by
   rw[Xbp];split
   . rw[Xad,List.take_succ_cons,Fz p l]
   . rfl
theorem U6{α:Type}(p:α->Bool):∀l:List α,l.drop ((l.takeWhile p).length+1)=(l.dropWhile p).drop 1
 | []=>rfl
 | a::l=>by
   rw[Xbp,List.dropWhile_cons];split
   . rw[Xad,List.drop_succ_cons,U6 p l]
   . rfl
theorem aqM{l:List UInt8}(h:l.any (· == fD)=true):(l.takeWhile (· != fD)).length<l.length:=by
 rcases Xbk (l.takeWhile (· != fD)).length l.length with h1|h1
 . exact h1
 . exfalso
   have F:=Fz (· != fD) l;rw[Xap h1]at F;obtain⟨c,I,E⟩:=Xan.1 h;rw[F]at I;have:=DY I;simp at this E;exact this E
def adF(s:ByteArray):Int:=if mB s=true then(((bl s).takeWhile (· != fD)).length:Int)else -1
theorem ZY(s:ByteArray):PC prog 233 [str s,str ⟨#[47]⟩] (int (adF s)):=by
 refine PC.lib (a:=[.string s,.string ⟨#[47]⟩]) (v:=.int .i64 (adF s)) (fun S w=>rfl) fun w _=>(Tryz.stringslite_Index_one s 47 w).mono fun e w' ⟨F,E⟩=>?_
 rw[E];exact⟨F.trans (by rw[show s.data.toList=bl s from rfl,Dw];rfl),Below.refl _ _⟩
theorem NH(s:ByteArray):PC prog 109 [str s,str ⟨#[47]⟩] (boo (mB s)):=by
 refine PC.lib (a:=[.string s,.string ⟨#[47]⟩]) (v:=.bool (mB s)) (fun S w=>rfl) fun w _=>(Tryz.strings_Contains_one s 47 w).mono fun e w' ⟨F,E⟩=>?_
 rw[E];refine⟨F.trans ?_,Below.refl _ _⟩;rw[show s.data.toList=bl s from rfl,Dw];unfold mB;cases(bl s).any (· == fD) <;> simp
def LX(s:ByteArray):ByteArray:=⟨(((bl s).dropWhile (· != fD)).drop 1).toArray⟩
theorem Yl(s:ByteArray)(h:s.size<=1048576):PC prog 183 [str s,str ⟨#[47]⟩] (.tup (if mB s=true then[str (kQ s),str (LX s),boo true]else[str s,str emp,boo false])):=by
 refine pcd Tryz.func183 ?_;unfold Tryz.f183;simp only[gdS];simp only[go_sem];refine PC.use (ZY s) ?_;simp only[go_sem];have I:=gT s;refine aB (fun E=>?_) (fun E=>?_)
 . have F : mB s = true := by
     have E:=of_decide_eq_true E;unfold adF at E;split at E
     . assumption
     . omega
   have V:=aqM F;rw[if_pos F,show adF s=(((bl s).takeWhile (· != fD)).length:Int)from if_pos F];simp only[go_sem];refine cN (by rfl) (by kernel_rfl) ?_;simp only[go_sem];have U:s.extract 0 ((bl s).takeWhile (· != fD)).length=kQ s:=mZ (by rw[kE,Xca,Fz];exact(kR _).symm);have J:s.extract (((bl s).takeWhile (· != fD)).length+1) s.size=LX s:=mZ (by rw[kE,<-I,Xag,U6];exact(kR _).symm);refine⟨⟨by omega,by omega⟩,?_⟩;have O:IntKind.i64.wrap ((((bl s).takeWhile (· != fD)).length:Int)+((#[47]:Array UInt8).size:Nat))=((((bl s).takeWhile (· != fD)).length+1:Nat):Int):=aT (by omega);simp only[O,Xaq,U,J];refine⟨⟨by omega,by omega⟩,?_⟩;exact .refl _
 . have F : ¬ mB s = true := fun F => by
     have E:=of_decide_eq_false E;unfold adF at E;rw[if_pos F]at E;omega
   rw[if_neg F];simp only[go_sem];exact .refl _
theorem abQ{s:ByteArray}(h:mB s=false):kQ s=s:=by
 refine mZ ?_;unfold kQ;rw[kR];refine xZ fun c E=>?_
 unfold mB at h;rw[Xay]at h;have:=h c E;simpa using this
theorem asZ(s:ByteArray)(h:s.size<=1048576):PC prog 113 [str s,str ⟨#[47]⟩] (.tup (if mB s=true then[str (kQ s),str (LX s),boo true]else[str s,str emp,boo false])):=by
 by_cases E:mB s=true
 . have:=Yl s h
   rw[if_pos E]at this |-;refine pcd Tryz.func113 ?_;unfold Tryz.f113;simp only[gdS];simp only[go_sem];refine PC.use this ?_;simp only[go_sem];exact .refl _
 . have:=Yl s h
   rw[if_neg E]at this |-;refine pcd Tryz.func113 ?_;unfold Tryz.f113;simp only[gdS];simp only[go_sem];refine PC.use this ?_;simp only[go_sem];exact .refl _
theorem Fo(s:ByteArray)(h:s.size<=1048576):PC prog 64 [str s] (.tup [str (kQ s),str (kG s)]):=by
 have F:=asZ s h;by_cases E:mB s=true
 . rw[if_pos E]at F
   refine pcd Tryz.func64 ?_;unfold Tryz.f64;simp only[gdS];simp only[go_sem];refine PC.use F ?_;simp only[go_sem];refine aB (fun I=>by cases I) (fun _=>?_);simp only[go_sem];rw[show kG s=LX s from if_pos E];exact .refl _
 . rw[if_neg E]at F
   refine pcd Tryz.func64 ?_;unfold Tryz.f64;simp only[gdS];simp only[go_sem];refine PC.use F ?_;simp only[go_sem];refine aB (fun _=>?_) (fun I=>by cases I);simp only[go_sem];rw[show kG s=dec 1 from if_neg E,abQ (by simpa using E),<-FB];exact .refl _
theorem NR(s:ByteArray):PC prog 108 [str s] (int (fR s).size):=by
 refine pcd Tryz.func108 ?_;unfold Tryz.f108;simp only[gdS];simp only[go_sem];refine PC.use (Ad s) ?_;simp only[go_sem];exact .refl _
theorem JG(s:ByteArray):(kQ s).size<=s.size:=by
 rw[<-gT,<-gT,show bl (kQ s)=(bl s).takeWhile (· != fD)from kR _,<-Fz];simp;omega
theorem Xz(s:ByteArray):(kG s).size<=max s.size 1:=by
 unfold kG;split
 . rw[<-gT,<-gT,kR,Xbw]
   have:((bl s).dropWhile (· != fD)).length<=(bl s).length:=(List.dropWhile_suffix _).length_le;omega
 . rw[<-FB];exact Nat.le_max_right _ _
theorem QN:gY (dec 1)=true:=tG 1
theorem Gv{s:ByteArray}(h:gY s=true):fR s=s:=by rw[<-mN h,OG]
theorem Ws{s:ByteArray}(h:mB s=false):kG s=dec 1:=if_neg (by rw[h];simp)
theorem Ry{s:ByteArray}(E:(!gS (kQ s)||decide (((fR (kQ s)).size:Int)>4096)||decide (((fR (kG s)).size:Int)>4096))=true):dI s=false:=by
 unfold dI;rw[Xcp];simp only[ne_eq,Xak,decide_eq_true_eq];rintro⟨⟨⟨⟨h1,F⟩,I⟩,J⟩,_⟩;rw[h1,Gv F]at E;simp only[Xby,Xbm,Xbq,decide_eq_true_eq]at E;omega
theorem EY{s:ByteArray}(E:(!gS (kQ s)||decide (((fR (kQ s)).size:Int)>4096)||decide (((fR (kG s)).size:Int)>4096))=false)(J:gY (kG s)=true):
   (gS (kQ s)&&gY (kG s)&&decide ((fR (kQ s)).size<=4096)&&decide ((kG s).size<=4096))=true/\gS (kQ s)=true/\(fR (kQ s)).size<=4096/\(kG s).size<=4096:=by
 simp only[Xaf,Xcg,decide_eq_false_iff_not]at E;rw[Gv J]at E;obtain⟨⟨h1,I⟩,F⟩:=E;have I:(fR (kQ s)).size<=4096:=by omega
 have F:(kG s).size<=4096:=by omega
 refine⟨?_,h1,I,F⟩;rw[h1,J];simp[I,F]
theorem Au(s:ByteArray)(h:s.size<=1048576):PC prog 63 [str s] (boo (dI s)):=by
 have hn:=JG s;have hd:=Xz s;have h1:(1:Nat)<=1048576:=by omega
 have ab:=MO (kQ s);have aa:=MO (kG s);refine pcd Tryz.func63 ?_;unfold Tryz.f63;simp only[gdS];simp only[go_sem];refine PC.use (Fo s h) ?_;simp only[go_sem];refine PC.use (YK (kQ s) (by omega)) ?_;simp only[go_sem];refine⟨_,fun _=>(NR (kQ s)).q rfl,?_⟩;simp only[go_sem];refine⟨_,fun _=>(NR (kG s)).q rfl,?_⟩;simp only[go_sem];refine aB (fun I=>?_) (fun I=>?_)
 . simp only[go_sem]
   exact cB (Ry I).symm
 simp only[go_sem];refine PC.use (NH s) ?_;simp only[go_sem];refine aB (fun J=>?_) (fun J=>?_)
 . simp only[go_sem]
   refine cB ?_;have h0:mB s=false:=by simpa using J
   have F:gY (kG s)=true:=by rw[Ws h0];exact QN
   unfold dI;rw[(EY I F).1,h0];rfl
 have h0:mB s=true:=by simpa using J
 simp only[go_sem];refine PC.use (C4 (kG s) (by omega)) ?_;simp only[go_sem,yX,TO];refine aB (fun E=>?_) (fun E=>?_)
 . simp only[go_sem]
   refine cB ?_;unfold dI;rw[h0];simp only[Xbq,Xbb]at E;rcases E with((E|E)|E)|E <;> simp[E]
 simp only[Xaf,Xcg]at E;obtain⟨⟨⟨F,U⟩,Z⟩,V⟩:=E;obtain⟨Y,X,f3,O⟩:=EY I F;simp only[go_sem];refine PC.use (Ad (kQ s)) ?_;simp only[go_sem];refine PC.use (Zt (fR (kQ s)) (kG s) (by omega) (by omega)) ?_;simp only[go_sem,TO];refine cB ?_;have fd:=DU X;have v0:gM (kG s)≠0:=fun e=>uA.1 U (by rw[<-mN F,e])
 have v1:gM (kG s)<dZ:=(Ca F).1 O;have e:Lr (fR (kQ s)) (kG s)=(dec (Nat.gcd (gM (fR (kQ s))) (gM (kG s))),0):=by
   unfold Lr;rw[if_pos (Lg fd F f3 O),Dn (Nat.lt_of_le_of_lt (Nat.gcd_le_right _ (by omega)) v1)]
 have ev:(kT (kQ s)).natAbs=gM (fR (kQ s)):=by unfold kT;split <;> omega
 rw[e];unfold dI;rw[Y,h0,U,Z,V,ev];simp only[beq_self_eq_true,Xbl,Xby,Bool.not_false,Xbm];rw[Xas,uX,xY,Xba]
theorem C0(n:Int)(h0: -9223372036854775808<=n)(h1:n<=9223372036854775807):PC prog 99 [int n] (str (zed n)):=by
 refine pcd Tryz.func99 ?_;unfold Tryz.f99;simp only[gdS];simp only[go_sem];refine PC.use (avJ n h0 h1) ?_;simp only[go_sem];exact .refl _
theorem adW(s:ByteArray)(h:s.size<=1048576):PC prog 33 [str s] (int (Kw s)):=by
 have J:=JG s;refine pcd Tryz.func33 ?_;unfold Tryz.f33;simp only[gdS];simp only[go_sem];refine PC.use (Au s h) ?_;simp only[go_sem];refine aB (fun E=>?_) (fun E=>?_)
 . simp only[go_sem]
   exact cI (by unfold Kw;rw[if_neg (by simpa using E)])
 . have F:dI s=true:=by simpa using E
   simp only[go_sem];refine PC.use (Fo s h) ?_;simp only[go_sem];refine PC.use (alO (kQ s) (by omega)) ?_;simp only[go_sem];refine cI ?_;obtain⟨x,rfl,O,I,_⟩:=kY F;unfold Kw MZ;rw[if_pos F,I,if_pos (qS _),dS,qX]
def LT(a b:ByteArray):List AV:=if(dI a&&dI b)=true then[str (kQ a),str (kG a),str (kQ b),str (kG b),int 0]else[str emp,str emp,str emp,str emp,int 3]
theorem Q5(a b:ByteArray)(F:a.size<=1048576)(I:b.size<=1048576):PC prog 100 [str a,str b] (.tup (LT a b)):=by
 refine pcd Tryz.func100 ?_;unfold Tryz.f100;simp only[gdS];simp only[go_sem];refine PC.use (Au a F) ?_;simp only[go_sem];refine⟨_,fun _=>(Au b I).q rfl,?_⟩;simp only[go_sem];refine aB (fun E=>?_) (fun E=>?_)
 . simp only[go_sem]
   rw[show LT a b=[str emp,str emp,str emp,str emp,int 3]from if_neg (by rw[Xcd,<-Xbb,Bool.not_and];exact E)];exact .refl _
 . simp only[go_sem]
   refine PC.use (Fo a F) ?_;simp only[go_sem];refine PC.use (Fo b I) ?_;simp only[go_sem];rw[show LT a b=_ from if_pos (by rw[<-Xcg,Bool.not_and];exact E)];exact .refl _
theorem YC(n:Int)(d:Nat)(O:d≠0)(J:n.natAbs<dZ)(E:d<dZ):PC prog 221 [str (zed n),str (dec d)] (.tup [str (xG (mkRat n d)),int 0]):=by
 have U:=Wl (n:=n) O E;have X:=aiM (n:=n) O;have V:∀{m:Int},m.natAbs<dZ->(zed m).size<=1048576:=fun {m} hm=>by
   have:=(xH m).2 hm;unfold fR at this;split at this
   . rw[<-gT,kR,Xbw]at this
     rw[<-gT];omega
   . omega
 have I:=Ip O J E;have Y:Fa (zed n) (dec (Nat.gcd n.natAbs d))=(zed (mkRat n d).num,zed (n.fmod (Nat.gcd n.natAbs d:Nat)),0):=by
   unfold Fa;rw[<-gU,if_pos (wC J (by rw[Xbz];exact U)),dS,dS,if_neg (by omega),aeR O]
 have Z:Fa (dec d) (dec (Nat.gcd n.natAbs d))=(dec (mkRat n d).den,zed ((d:Int).fmod (Nat.gcd n.natAbs d:Nat)),0):=by
   unfold Fa;rw[<-gU,<-gU,if_pos (wC (by rw[Xbz];exact E) (by rw[Xbz];exact U)),dS,dS,if_neg (by omega),ajO O,gU]
 refine pcd Tryz.func221 ?_;unfold Tryz.f221;simp only[gdS];simp only[go_sem];refine PC.use (Ad (zed n)) ?_;rw[pL];simp only[go_sem];refine PC.use (Zt (dec n.natAbs) (dec d) (fX J) (fX E)) ?_;rw[show Lr (dec n.natAbs) (dec d)=(dec (Nat.gcd n.natAbs d),0)by unfold Lr;rw[if_pos (AW J E),dG,dG,Dn U]];simp only[go_sem];refine aB (fun F=>by cases F) (fun _=>?_);simp only[go_sem];refine PC.use (Mb (zed n) (dec (Nat.gcd n.natAbs d)) (V J) (fX U)) ?_;rw[Y];simp only[go_sem];refine aB (fun F=>by cases F) (fun _=>?_);simp only[go_sem];refine PC.use (Mb (dec d) (dec (Nat.gcd n.natAbs d)) (fX E) (fX U)) ?_;rw[Z];simp only[go_sem];refine aB (fun F=>by cases F) (fun _=>?_);simp only[go_sem,TO];generalize mkRat n d=x at *;refine aB (fun F=>?_) (fun F=>?_)
 . have h1:x.den=1:=xY.1 (uX.1 F)
   simp only[go_sem];rw[show xG x=zed x.num from if_pos h1];exact .refl _
 . have h1:x.den≠1:=fun e=>uA.1 F (by rw[e])
   simp only[go_sem];have z1:=V I.1;have z2:=fX I.2;have z3:(zed x.num++slB).size=(zed x.num).size+1:=by rw[ByteArray.size_append];rfl
   refine⟨by show((zed x.num).size+(1:Nat):Int)<=9223372036854775807;omega,?_⟩;refine⟨by show(((zed x.num).size+1+(dec x.den).size:Nat):Int)<=9223372036854775807;omega,?_⟩;rw[show xG x=zed x.num++slB++dec x.den from if_neg h1];exact .refl _
end Nu
namespace Nu
open Go.Proofs.Tryz(prog)
open Go.Nu
abbrev Pr:=ByteArray×ByteArray
def Bs(p:Pr):List AV:=[str p.1,str p.2]
theorem Kq(p:Pr):(Bs p).length=2:=(rfl)
theorem afJ(p:Pr):(Bs p).getD 0 .any=str p.1:=(rfl)
theorem afE(p:Pr):(Bs p).getD 1 .any=str p.2:=(rfl)
theorem V0(p:Pr):(Bs p).take 2=Bs p:=(rfl)
attribute [go_sem] Kq afJ afE V0
def prA(p:Pr):List AV:=[str (AG p.1 p.2).1]
def prE:List Pr->Int
 | []=>0
 | p::l=>if(AG p.1 p.2).2≠0 then(AG p.1 p.2).2 else prE l
theorem Pe:∀{l:List Pr},(∀p∈l,(AG p.1 p.2).2=0)->prE l=0
 | [],_=>rfl
 | p::l,h=>by unfold prE;rw[if_neg (by simp[h p (by simp)])];exact Pe fun q E=>h q (by simp[E])
theorem adG:∀{l:List Pr} {k:Nat} {p:Pr},l[k]?=some p->(∀q∈l.take k,(AG q.1 q.2).2=0)->(AG p.1 p.2).2≠0->prE l=(AG p.1 p.2).2
 | [],k,p,h,_,_=>by simp at h
 | a::l,0,p,h,_,h2=>by
   simp at h;subst h;unfold prE;rw[if_pos h2]
 | a::l,k+1,p,h,h1,h2=>by
   unfold prE;rw[if_neg (by simp[h1 a (by simp)])];exact adG (k:=k) (by simpa using h) (fun q E=>h1 q (by simp[E])) h2
def aeT(l:List (List AV)):Row:=⟨9,1,l⟩
theorem F4(l:List Pr)(hl:l.length<=1048576)(hs:∀p∈l,p.1.size<=1048576/\p.2.size<=1048576):PC prog 220 [.sl (l.map Bs)] (.tup [.sl (if prE l=0 then l.map prA else[]),int (prE l)]):=by
 refine pcb (fun t=>t == 6||t == 11) Tryz.func220 ?_;unfold Tryz.f220;simp only[gdS];simp only[go_sem];refine⟨⟨⟨by omega,by omega⟩,by omega⟩,?_⟩;refine aL fun j hj=>?_
 simp only[go_sem];refine⟨fun ρ H=>∃(k j:Nat),k<=l.length/\ρ 12=.sl (l.map Bs)/\ρ 13=int l.length/\ρ 4=.os j/\ρ 14=int k/\H j=some (aeT ((l.take k).map prA))/\∀p∈l.take k,(AG p.1 p.2).2=0,fun ρ _=>l.length-aV (ρ 14),
   ⟨0,j,Xab _,by simp only[go_sem],by simp only[go_sem,Xaa],by simp only[go_sem],by simp only[go_sem];rfl,aA _ _ _,by simp⟩,?_⟩
 clear hj j;rintro ρ H ⟨k,j,hk,F,E,V,I,Z,hz⟩;simp only[go_sem,F,E,V,I];refine aB (fun O=>?_) (fun X=>?_)
 . have O:=ltB O
   obtain⟨p,J⟩:=aN O;have b1:=inB O;have ab:=hs p (Xac J);simp only[go_sem,F,E,V,I,aC J,b1];refine aL fun i hi=>?_
   have aa:j≠i:=aP Z hi;simp only[go_sem,F,E,V,I];refine aH (aA _ _ _) (by simp[Kq]) ?_;generalize hG:aI (aI _ i _) i _=HG;have Ri:HG i=some (⟨247,2,[Bs p]⟩:Row):=by rw[<-hG,aA];rfl
   have ac:HG j=some (aeT ((l.take k).map prA)):=by rw[<-hG,aF _ _ _ _ aa,aF _ _ _ _ aa];exact Z
   clear hG hi Z;simp only[go_sem,F,E,V,I,Ri]
   repeat (refine⟨by first|decide|omega,?_⟩)
   refine PC.use (apJ p.1 p.2 ab.1 ab.2) ?_;simp only[go_sem,F,E,V,I];refine aB (fun U=>?_) (fun U=>?_)
   . have U:(AG p.1 p.2).2≠0:=by simpa using U
     simp only[go_sem];have e:prE l=(AG p.1 p.2).2:=adG J hz U;rw[e,if_neg U];exact .refl _
   . have U:(AG p.1 p.2).2=0:=by simpa using U
     simp only[go_sem,F,E,V,I];refine aZ ac ⟨rfl,rfl⟩ ⟨rfl,trivial⟩ (by simp only[aeT,Xaa,Xao,Xad,List.length_nil];omega) (fun j' ad=>?_);simp only[go_sem,F,E,V,I,aT (show k<=4611686018427387904 by omega)];refine⟨⟨k+1,j',O,rfl,rfl,?_,?_⟩,by simp only[aE];omega⟩
     . rw[aA]
       simp only[aeT,bQ J,Xar,Xbc,Xbs];rfl
     . intro q Y
       rw[bQ J]at Y;rcases Xau.1 Y with Y|Y
       . exact hz q Y
       . rw[Xbf.1 Y];exact U
 . have X:=geB hk X
   subst X;rw[Xag]at Z hz;simp only[go_sem,V,Z];have e:prE l=0:=Pe hz;rw[if_pos e,e];exact .tup _ _ (.cons _ _ _ _ (.row _ _ _ Z (ConvE.refl _)) (ConvL.refl _))
theorem If{m n:Int}(F:m.natAbs<dZ)(E:n.natAbs<dZ):AG (zed m) (zed n)=szZ (m*n):=by unfold AG;rw[if_pos (wC F E),dS,dS]
theorem YA{m n:Int}(F:m.natAbs<dZ)(E:n.natAbs<dZ):XU (zed m) (zed n)=szZ (m+n):=by unfold XU;rw[if_pos (wC F E),dS,dS]
theorem YL{m n:Int}(F:m.natAbs<dZ)(E:n.natAbs<dZ):W0 (zed m) (zed n)=szZ (m-n):=by unfold W0;rw[if_pos (wC F E),dS,dS]
theorem MJ{n:Int}(h:pJ n=false):szZ n=(zed n,0):=if_pos (nM.1 h)
theorem Fu{n:Int}(h:pJ n=true):szZ n=(emp,4):=if_neg (fun E=>by rw[nM.2 E]at h;cases h)
theorem iQ{m:Int}(E:m.natAbs<dZ):(zed m).size<=1048576:=by
 have:=(xH m).2 E;unfold fR at this;split at this
 . rw[<-gT,kR,Xbw]at this
   rw[<-gT];omega
 . omega
theorem EA{a b c d:Int}(E:a.natAbs<dZ)(F:b.natAbs<dZ)(J:c.natAbs<dZ)(O:d.natAbs<dZ):
   PC prog 220 [.sl [[str (zed a),str (zed b)],[str (zed c),str (zed d)]]] (if(pJ (a*b)||pJ (c*d))=true then .tup [.sl [],int 4]else .tup [.sl [[str (zed (a*b))],[str (zed (c*d))]],int 0]):=by
 have:=F4 [(zed a,zed b),(zed c,zed d)] (by simp) (by simp[iQ,E,F,J,O]);simp only[prE,If E F,If J O,Xbc,Xbs,prA,Bs]at this;cases h1:pJ (a*b)with
 | true=>rw[Fu h1]at this;simpa using this
 | false=>
   rw[MJ h1]at this;cases I:pJ (c*d)with
   | true=>rw[Fu I]at this;simpa using this
   | false=>rw[MJ I]at this;simpa using this
theorem P9{a b:Int}(E:a.natAbs<dZ)(F:b.natAbs<dZ):
   PC prog 220 [.sl [[str (zed a),str (zed b)]]] (if pJ (a*b)=true then .tup [.sl [],int 4]else .tup [.sl [[str (zed (a*b))]],int 0]):=by
 have:=F4 [(zed a,zed b)] (by simp) (by simp[iQ,E,F]);simp only[prE,If E F,Xbc,Xbs,prA,Bs]at this;cases h1:pJ (a*b)with
 | true=>rw[Fu h1]at this;simpa using this
 | false=>rw[MJ h1]at this;simpa using this
def fv(g:FuncId):AV:=.v (.func (.func g) #[] #[])
def UL(op:Int->Int->Int)(x y:Rat):ByteArray×Int:=
 if(pJ (x.num*y.den)||pJ (y.num*x.den)||pJ (op (x.num*y.den) (y.num*x.den))||pJ (x.den*y.den))=true then(emp,4)else(xG (mkRat (op (x.num*y.den) (y.num*x.den)) (x.den*y.den)),0)
def Eg(op:Int->Int->Int)(a b:ByteArray):ByteArray×Int:=if(dI a&&dI b)=true then UL op (rK a) (rK b)else(emp,3)
theorem KC(g:FuncId)(op:Int->Int->Int)(aa:aG prog g=true)(hg:∀m n:Int,m.natAbs<dZ->n.natAbs<dZ->PC prog g [str (zed m),str (zed n)] (.tup [str (szZ (op m n)).1,int (szZ (op m n)).2]))
   (a b:ByteArray) (ha:a.size<=1048576) (E:b.size<=1048576):PC prog 163 [str a,str b,fv g] (.tup [str (Eg op a b).1,int (Eg op a b).2]):=by
 have F:=Q5 a b ha E;by_cases V:(dI a&&dI b)=true
 rotate_left
 . rw[show LT a b=_ from if_neg V]at F
   rw[show Eg op a b=(emp,3)from if_neg V];unfold fv;refine pcd Tryz.func163 ?_;unfold Tryz.f163;simp only[gdS];simp only[go_sem];refine PC.use F ?_;simp only[go_sem];refine aB (fun _=>?_) (fun E=>by cases E);simp only[go_sem];exact .refl _
 rw[show LT a b=_ from if_pos V]at F;rw[show Eg op a b=_ from if_pos V];simp only[Xak]at V;obtain⟨x,rfl,hx,e1,e2⟩:=kY V.1;obtain⟨y,rfl,hy,e3,e4⟩:=kY V.2;rw[e1,e2,e3,e4]at F;rw[qX,qX];have xd:((x.den:Int)).natAbs<dZ:=by rw[Xbz];exact hx.2
 have yd:((y.den:Int)).natAbs<dZ:=by rw[Xbz];exact hy.2
 have X:=EA hx.1 yd hy.1 xd;have Y:=P9 xd yd;rw[gU,gU]at X Y;unfold fv;refine pcd Tryz.func163 ?_;unfold Tryz.f163;simp only[gdS];simp only[go_sem];refine PC.use F ?_;simp only[go_sem];refine aB (fun E=>by cases E) (fun _=>?_);simp only[go_sem];unfold UL;cases J:(pJ (x.num*y.den)||pJ (y.num*x.den))with
 | true=>
   rw[J,if_pos rfl]at X;refine PC.use X ?_;simp only[go_sem];refine aB (fun _=>?_) (fun E=>by cases E);exact .refl _
 | false=>
   rw[J]at X;simp only[Xax,if_false]at X;refine PC.use X ?_;simp only[go_sem];refine aB (fun E=>by cases E) (fun _=>?_);simp only[go_sem];have I:=J;simp only[Xaf]at I;have Z:=hg _ _ (nM.1 I.1) (nM.1 I.2);refine cN (by rfl) (by kernel_rfl) ?_;simp only[go_sem,Xad,List.length_nil]
   repeat (refine⟨by first|decide|omega,?_⟩)
   refine⟨_,Z.q rfl,?_⟩;simp only[go_sem];generalize hN:op (x.num*y.den) (y.num*x.den)=N;cases O:pJ N with
   | true=>
     rw[Fu O];refine aB (fun _=>?_) (fun E=>by cases E);simp only[go_sem,J,Xbm,Bool.true_or,if_true];exact .refl _
   | false=>
     rw[MJ O];refine aB (fun E=>by cases E) (fun _=>?_);simp only[go_sem];cases U:pJ ((x.den:Int)*y.den)with
     | true=>
       rw[U,if_pos rfl]at Y;refine PC.use Y ?_;simp only[go_sem];refine aB (fun _=>?_) (fun E=>by cases E);simp only[go_sem,Bool.or_true,if_true];exact .refl _
     | false=>
       rw[U]at Y;simp only[Xax,if_false]at Y;refine PC.use Y ?_;simp only[go_sem];refine aB (fun E=>by cases E) (fun _=>?_);simp only[go_sem,Xad,List.length_nil]
       repeat (refine⟨by first|decide|omega,?_⟩)
       have hD:x.den*y.den<dZ:=by rw[<-Fx];exact nM.1 U
       have:=YC N (x.den*y.den) (MP x y) (nM.1 O) hD;rw[<-gU,Int.natCast_mul]at this;refine PC.use this ?_;simp only[go_sem];exact .refl _
theorem V2(a b:ByteArray):Eg (·+·) a b=BZ a b:=by
 unfold Eg BZ UL zY;simp only[TT]
theorem XK(a b:ByteArray):Eg (·-·) a b=LG a b:=by
 unfold Eg LG UL zY;simp only[TT,Rat.neg_num,Rat.neg_den,Int.neg_mul,<-Int.sub_eq_add_neg];have:∀n:Int,pJ (-n)=pJ n:=fun n=>by unfold pJ;rw[Int.natAbs_neg]
 simp only[this]
theorem Aa(a b:ByteArray)(I:a.size<=1048576)(J:b.size<=1048576):PC prog 162 [str a,str b] (.tup [str (BZ a b).1,int (BZ a b).2]):=by
 have:=KC 222 (·+·) (by kernel_rfl) (fun m n F E=>by rw[<-YA F E];exact apV _ _ (iQ F) (iQ E)) a b I J;rw[V2]at this;unfold fv at this;refine pcd Tryz.func162 ?_;unfold Tryz.f162;simp only[gdS];simp only[go_sem];refine PC.use this ?_;simp only[go_sem];exact .refl _
theorem AR(a b:ByteArray)(I:a.size<=1048576)(J:b.size<=1048576):PC prog 98 [str a,str b] (.tup [str (LG a b).1,int (LG a b).2]):=by
 have:=KC 164 (·-·) (by kernel_rfl) (fun m n F E=>by rw[<-YL F E];exact apZ _ _ (iQ F) (iQ E)) a b I J;rw[XK]at this;unfold fv at this;refine pcd Tryz.func98 ?_;unfold Tryz.f98;simp only[gdS];simp only[go_sem];refine PC.use this ?_;simp only[go_sem];exact .refl _
theorem aqC(a b:ByteArray)(ha:a.size<=1048576)(I:b.size<=1048576):PC prog 161 [str a,str b] (.tup [str (BU a b).1,int (BU a b).2]):=by
 have E:=Q5 a b ha I;by_cases J:(dI a&&dI b)=true
 rotate_left
 . rw[show LT a b=_ from if_neg J]at E
   rw[show BU a b=(emp,3)from if_neg J];refine pcd Tryz.func161 ?_;unfold Tryz.f161;simp only[gdS];simp only[go_sem];refine PC.use E ?_;simp only[go_sem];refine aB (fun _=>?_) (fun I=>by cases I);simp only[go_sem];exact .refl _
 rw[show LT a b=_ from if_pos J]at E;rw[show BU a b=_ from if_pos J];simp only[Xak]at J;obtain⟨x,rfl,V,e1,e2⟩:=kY J.1;obtain⟨y,rfl,U,X,e4⟩:=kY J.2;rw[e1,e2,X,e4]at E;rw[qX,qX];have Z:((x.den:Int)).natAbs<dZ:=by rw[Xbz];exact V.2
 have Y:((y.den:Int)).natAbs<dZ:=by rw[Xbz];exact U.2
 have O:=EA V.1 U.1 Z Y;rw[gU,gU]at O;refine pcd Tryz.func161 ?_;unfold Tryz.f161;simp only[gdS];simp only[go_sem];refine PC.use E ?_;simp only[go_sem];refine aB (fun I=>by cases I) (fun _=>?_);simp only[go_sem];unfold PK;cases F:(pJ (x.num*y.num)||pJ ((x.den:Int)*y.den))with
 | true=>
   rw[F,if_pos rfl]at O;refine PC.use O ?_;simp only[go_sem];refine aB (fun _=>?_) (fun I=>by cases I);exact .refl _
 | false=>
   rw[F]at O;simp only[Xax,if_false]at O;refine PC.use O ?_;simp only[go_sem];refine aB (fun I=>by cases I) (fun _=>?_);simp only[go_sem];simp only[Xaf]at F;have hD:x.den*y.den<dZ:=by rw[<-Fx];exact nM.1 F.2
   have:=YC (x.num*y.num) (x.den*y.den) (MP x y) (nM.1 F.1) hD;rw[<-gU,Int.natCast_mul]at this;refine cN (by rfl) (by kernel_rfl) ?_;simp only[go_sem,Xad,List.length_nil]
   repeat (refine⟨by first|decide|omega,?_⟩)
   refine⟨_,this.q rfl,?_⟩;simp only[go_sem];rw[<-ZL];exact .refl _
end Nu
end Go.Proofs.YtohmomanmikphaaGreatDoor
section
namespace Go.Nu
open Go Go.Lib
theorem iQ{m:Int}(E:m.natAbs<dZ):(zed m).size<=4097:=by
 have:=(xH m).2 E;unfold fR at this;split at this
 . rw[<-gT,kR,List.length_drop]at this
   rw[<-gT];omega
 . omega
theorem Xp{x:Rat}(h:DC x):(xG x).size<=8194:=by
 have h1:=iQ h.1;have E:=(jR x.den).2 h.2;unfold xG;split
 . omega
 . rw[ByteArray.size_append,ByteArray.size_append]
   have:slB.size=1:=rfl;omega
theorem vH{s:ByteArray}(h:dI s=true):s.size<=8194:=by
 obtain⟨x,rfl,E,_⟩:=kY h;exact Xp E
theorem Ge{a b:ByteArray}(h:(BZ a b).2=0):dI (BZ a b).1=true:=by
 unfold BZ at h |-;split at h
 . rename_i E
   rw[if_pos E];obtain⟨e,F⟩:=FY h;rw[e];exact vD F
 . cases h
theorem Qy{a b:ByteArray}(h:(BU a b).2=0):dI (BU a b).1=true:=by
 unfold BU at h |-;split at h
 . rename_i E
   rw[if_pos E];obtain⟨e,F⟩:=MX h;rw[e];exact vD F
 . cases h
def yS:List (Int×ByteArray)->ByteArray->ByteArray×Int
 | [],t=>(t,0)
 | p :: l, t => if (BU (zed p.1) p.2).2 ≠ 0 then (emp, (BU (zed p.1) p.2).2) else
     if(BZ t (BU (zed p.1) p.2).1).2≠0 then(emp,(BZ t (BU (zed p.1) p.2).1).2)else yS l (BZ t (BU (zed p.1) p.2).1).1
def tD(ns:List Int)(xs:List ByteArray):ByteArray×Int:=
 if ns.length≠xs.length then(emp,2)else if xs.any (fun x=> !dI x)=true then(emp,3)else yS (ns.zip xs) (dec 0)
theorem TK:dI (dec 0)=true:=by
 have:dec 0=xG 0:=(gU 0).symm.trans (if_pos (show(0:Rat).den=1 from rfl)).symm;rw[this];exact vD ⟨afV,SS (k:=1) (by decide) (by decide)⟩
end Go.Nu
end
section
namespace Go.Proofs.YtohmomanmikphaaGreatDoor.Nu
open Go.Proofs.Tryz(prog)
open Go.Aw Go.Aw.D Go.Proofs Ty Go.Nu
theorem NY{p q:Int}(I:0<q):(p.fdiv q).natAbs<=p.natAbs:=by
 obtain⟨e,h0,h1⟩:=tF (p:=p) I;generalize p.fdiv q=d at *;generalize p.fmod q=m at *;rcases Int.lt_or_le d 0 with E|E
 . have F:(d+1)*q<=(d+1)*1:=Int.mul_le_mul_of_nonpos_left (by omega) (by omega)
   rw[Int.add_mul]at F;omega
 . have F:d*1<=d*q:=Int.mul_le_mul_of_nonneg_left (by omega) E
   omega
theorem Qb{p q:Int}(F:p.natAbs<dZ)(E:q.natAbs<dZ)(h:0<q):Fa (zed p) (zed q)=(zed (p.fdiv q),zed (p.fmod q),0):=by
 unfold Fa;rw[if_pos (wC F E),dS,dS,if_neg (by omega)]
theorem aaR(i j:Int):aaQ (zed i) (zed j)=jY i j:=by unfold aaQ;rw[if_pos ⟨qS _,qS _⟩,dS,dS]
theorem Tt(i j:Int):jY i j= -1\/jY i j=0\/jY i j=1:=by
 unfold jY;split
 . exact .inl rfl
 . split
   . exact .inr (.inr rfl)
   . exact .inr (.inl rfl)
def atV:AV->Nat
 | .v (.string s)=>(kT s).natAbs
 | _=>0
theorem M1(n:Int):atV (str (zed n))=n.natAbs:=by show(kT (zed n)).natAbs=_;rw[dS]
theorem HS(n:Int):(bl (zed n) == [48])=decide (n=0):=by
 rw[yX,<-show zed ((0:Nat):Int)=dec 0 from gU 0,Xas,uX,Y1,decide_eq_true_iff];exact Iff.rfl
theorem asE{a b:Int}(E:a=1\/a= -1)(F:b= -1\/b=0\/b=1):IntKind.i64.wrap (a*b)=a*b:=by
 rcases E with rfl|rfl <;> rcases F with rfl|rfl|rfl <;> rfl
theorem Qh{a:Int}(E:a=1\/a= -1):IntKind.i64.wrap (0-a)= -a:=by rcases E with rfl|rfl <;> rfl
theorem yL(a b:ByteArray)(ha:a.size<=1048576)(hb:b.size<=1048576):PC prog 59 [str a,str b] (int (IN a b)):=by
 have F:=Q5 a b ha hb;by_cases Z:(dI a&&dI b)=true
 rotate_left
 . rw[show LT a b=_ from if_neg Z]at F
   rw[show IN a b=0 from if_neg Z];refine pcd Tryz.func59 ?_;unfold Tryz.f59;simp only[gdS];simp only[go_sem];refine PC.use F ?_;simp only[go_sem];refine aB (fun _=>?_) (fun hb=>by cases hb);simp only[go_sem];exact .refl _
 rw[show LT a b=_ from if_pos Z]at F;rw[show IN a b=_ from if_pos Z];simp only[Xak]at Z;obtain⟨x,rfl,hx,e1,e2⟩:=kY Z.1;obtain⟨y,rfl,hy,e3,e4⟩:=kY Z.2;rw[e1,e2,e3,e4]at F;rw[qX,qX];have xd:((x.den:Int)).natAbs<dZ:=by rw[Xbz];exact hx.2
 have yd:((y.den:Int)).natAbs<dZ:=by rw[Xbz];exact hy.2
 have x0:=x.den_nz;have y0:=y.den_nz;rw[<-gU,<-gU]at F;refine pcd Tryz.func59 ?_;unfold Tryz.f59;simp only[gdS];simp only[go_sem];refine PC.use F ?_;simp only[go_sem];refine aB (fun hb=>by cases hb) (fun _=>?_);simp only[go_sem];refine⟨fun ρ _=>∃(p q r s g:Int),ρ 5=str (zed p)/\ρ 6=str (zed q)/\ρ 7=str (zed r)/\ρ 8=str (zed s)/\ρ 10=int g/\(g=1\/g= -1)/\0<q/\0<s/\p.natAbs<dZ/\q.natAbs<dZ/\r.natAbs<dZ/\s.natAbs<dZ/\Qz x y=g*Ix p q r s,fun ρ _=>atV (ρ 6),
   ⟨x.num,x.den,y.num,y.den,1,by simp only[go_sem],by simp only[go_sem],by simp only[go_sem],by simp only[go_sem],by simp only[go_sem],.inl rfl,by omega,by omega,hx.1,xd,hy.1,yd,by rw[Int.one_mul,Yk]⟩,?_⟩
 rintro ρ H ⟨p,q,r,s,g,V,X,U,Y,E,hg,hq,hs,bp,bq,br,bs,I⟩;simp only[go_sem,V,X,U,Y,E];refine PC.use (Mb (zed p) (zed q) (iQ bp) (iQ bq)) ?_;rw[Qb bp bq hq];simp only[go_sem,V,X,U,Y,E];refine PC.use (Mb (zed r) (zed s) (iQ br) (iQ bs)) ?_;rw[Qb br bs hs];simp only[go_sem,V,X,U,Y,E];have d1:=NY (p:=p) hq;have d2:=NY (p:=r) hs;refine PC.use (SG (zed (p.fdiv q)) (zed (r.fdiv s)) (iQ (by omega)) (iQ (by omega))) ?_;rw[aaR];simp only[go_sem,V,X,U,Y,E];obtain⟨_,m0,m1⟩:=tF (p:=p) hq;obtain⟨_,n0,n1⟩:=tF (p:=r) hs;have c3:=Tt (p.fdiv q) (r.fdiv s);refine aB (fun hc=>?_) (fun hc=>?_)
 . have hc:jY (p.fdiv q) (r.fdiv s)≠0:=by simpa using hc
   simp only[go_sem,E,asE hg c3];refine cI ?_;rw[I,Tq hq hs (fun e=>hc (uM e))]
 have hc:p.fdiv q=r.fdiv s:=Ko.1 (by simpa using hc);have hX:=W6 hq hs hc;generalize p.fmod q=m at *;generalize r.fmod s=n at *;simp only[go_sem,V,X,U,Y,E,HS];refine aB (fun hz=>?_) (fun hz=>?_)
 . have hz:m=0/\n=0:=by simpa using hz
   simp only[go_sem];refine cI ?_;rw[I,hX,hz.1,hz.2,Int.zero_mul,Int.zero_mul,uM rfl,Int.mul_zero]
 simp only[go_sem,V,X,U,Y,E,HS];refine aB (fun J=>?_) (fun J=>?_)
 . have J:m=0:=of_decide_eq_true J
   have O:0<n:=by
     rcases Int.lt_or_le 0 n with h|h
     . exact h
     . exfalso
       have:n=0:=by omega
       rw[J,this]at hz;cases hz
   simp only[go_sem,E,Qh hg];refine cI ?_;rw[I,hX,J,Int.zero_mul,kL (Int.mul_pos O hq)];omega
 have J:0<m:=by have:=of_decide_eq_false J;omega
 simp only[go_sem,V,X,U,Y,E,HS];refine aB (fun O=>?_) (fun O=>?_)
 . have O:n=0:=of_decide_eq_true O
   simp only[go_sem,E];refine cI ?_;rw[I,hX,O,Int.zero_mul,kK (Int.mul_pos J hs)];omega
 have O:0<n:=by have:=of_decide_eq_false O;omega
 simp only[go_sem,V,X,U,Y,E,Qh hg];refine⟨⟨q,m,s,n,-g,rfl,rfl,rfl,rfl,rfl,by omega,J,O,bq,by omega,bs,by omega,?_⟩,?_⟩
 . rw[I,hX,Xu]
   rw[Int.mul_neg,Int.neg_mul]
 . rw[M1,M1];omega
end Go.Proofs.YtohmomanmikphaaGreatDoor.Nu
end
