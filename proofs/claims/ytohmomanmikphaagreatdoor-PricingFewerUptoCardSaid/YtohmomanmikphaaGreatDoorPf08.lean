import Derived.WalkKit
import Derived.BigCall
import Derived.Deep.LoopGhost
import Derived.Deep.DeepFit
import Derived.Lib.SmallJoins
import Derived.Test.YtohmomanmikphaaGreatDoorPf07
set_option linter.unusedSimpArgs false
set_option linter.unusedVariables false
set_option maxRecDepth 100000
section
namespace Go.Proofs.YtohmomanmikphaaGreatDoor.Nu
open Go.Proofs.Tryz(prog)
open Go.Aw Go.Aw.D Go.Proofs Ty Go.Nu Go.RowKit Go.Sort
theorem rO{T e:TypeId}{B b:Nat}{bs:List Value}{w w':World}(h:Lib.IsBuilder T e B b bs w)(I:Below w.heap.size w w'):Lib.IsBuilder T e B b bs w':=by
 have u:∀p,Lib.BuilderAt T e B b p bs w->Lib.BuilderAt T e B b p bs w':=by
   rintro p ⟨h1,v,J,E,h4⟩;refine⟨h1,v,?_,⟨E.1,?_⟩,h4⟩
   . rw[I.block b (Array.getElem?_eq_some_iff.1 J).1];exact J
   . rcases E.2 with h5|⟨g,cap,cur,M,O,F,Z⟩
     . exact .inl h5
     . exact .inr ⟨g,cap,cur,M,O,by rw[I.block g (Array.getElem?_eq_some_iff.1 F).1];exact F,Z⟩
 exact h.imp (u _) (u _)
theorem lM{w:World}(k:Nat)(os:Array Obj):Below w.heap.size w (grow (w.drewN k) os):=by
 refine⟨rfl,rfl,rfl,?_,fun i u=>?_⟩
 . simp[grow]
 . simp only[grow,World.heap_drewN]
   rw[Array.getElem?_append_left u]
theorem HC{T e:TypeId}{B b:Nat}{l:List UInt8}{s:ByteArray}{w:World}(h:Lib.BuilderAt T e B b (.pointer (some ⟨b,0,none⟩)) (Lib.byteCells l++Lib.strCells s) w):Lib.IsBuilder T e B b (Lib.byteCells (l++bl s)) w:=by
 rw[Lib.strCells_eq,<-Lib.byteCells_append]at h;exact .inr h
theorem sG(B b:Nat)(l:List UInt8)(s:ByteArray)(w:World)(h:Lib.IsBuilder 280 5 B b (Lib.byteCells l) w)(u:l.length+s.size<=140737488355328)(E:B<=w.heap.size):
   Calls prog 262 #[.pointer (some ⟨b,0,none⟩),.string s] w fun e w'=>e=.returned (.tuple #[.int .i64 s.size,.nilIface])/\Lib.IsBuilder 280 5 B b (Lib.byteCells (l++bl s)) w'/\Below B w w':=
 (Any.Builder_WriteString (P:=prog) (ρ:=Tryz.lays105_ren) { Tryz.lays105 with } Tryz.Builder_Extra_105 B b (Lib.byteCells l) s w h (by rw[Lib.byteCells_length];exact u) E).mono fun e w' ⟨F,J,I⟩=>⟨F,HC J,I⟩
theorem Yh{l:List Nat}(h:Lim bas l)(K:Nat)(u:l.length<=K)(h1:1<=K):(Lib.decDigits (ofL bas l)).length<=9*K:=by
 refine(qA (by omega)).2 (Xbn (mE (by decide) h) ?_);rw[show bas=10^9 from rfl,<-Nat.pow_mul];exact Xav (by omega) (by omega)
def Fn(n k:Nat):List UInt8:=Lib.decDigits (ofL bas ((bI bas n).drop k))
theorem Re{n k x:Nat}(E:k+1<(bI bas n).length)(u:(bI bas n)[k]?=some x):Fn n k=Fn n (k+1)++aiM x:=by
 have h1:=dP (b:=bas) (by decide) n x (Xae u);unfold Fn;rw[vY bas u];exact Wd h1 (T5 (by decide) E)
set_option maxHeartbeats 1600000 in
theorem Kt (n:Nat) (w:World) (b o c:Nat) (af:(bI bas n).length<=1048576) (ae:0<(bI bas n).length)
    (hz:∀(i x:Nat),(bI bas n)[i]?=some x->w.cell? ⟨b,o+i,none⟩=some (.int .i64 x)) (hb:b<w.heap.size)
    (F:Lib.TabIs prog w "internal/strconv.uint64pow10" .u64 Lib.pow10Tab):
    Calls prog 225 #[.slice (some ⟨b,o,none⟩) (bI bas n).length c] w fun e w'=>e=.returned (.string (dec n))/\Below w.heap.size w w':=by
  obtain⟨L,hL⟩:∃L,(bI bas n).length=L:=⟨_,rfl⟩
  have h0:Lib.IsBuilder 280 5 w.heap.size w.heap.size (Lib.byteCells []) (w.alloc (.cells #[.pointer none,.slice none 0 0] 280)):=Lib.fresh_isBuilder 280 5 w
  have b0:Below w.heap.size w (w.alloc (.cells #[.pointer none,.slice none 0 0] 280)):=(Below.refl _ w).alloc (Xaf _) _
  obtain⟨x0,T⟩:=aN (show L-1<(bI bas n).length by omega)
  have an:=hz _ _ T
  have aa:=dP (b:=bas) (by decide) n x0 (Xae T)
  have aa:x0<1000000000:=aa
  rw[hL]
  rw[hL]at ae af
  have al:((L:Int) == 0)=false:=by rw[beq_eq_false_iff_ne];omega
  go_enter Tryz.func225,Tryz.ntmps225
  go_wp2_with (go_at_call 224;refine(Tryz.strconv_Itoa (x0:Int) (by omega) (by omega) _ (Lib.tabIs_alloc F _)).mono ?_)
  rintro e W1 ⟨rfl,k,os,rfl⟩
  have O:Below w.heap.size w (grow ((w.alloc (.cells #[.pointer none,.slice none 0 0] 280)).drewN k) os):=b0.trans ⟨rfl,rfl,rfl,(lM k os).size,fun i hi=>(lM k os).block i (Xbn hi b0.size)⟩
  have h1:=rO h0 (lM k os)
  generalize grow _ os=W1 at *
  have hI:∀x:Nat,(Lib.itoa (x:Int))=Lib.decDigits x:=Lib.itoa_nonneg
  have ac:∀x:Nat,x<1000000000->(Lib.decDigits x).length<=9:=fun x hx=>(qA (k:=9) (by omega)).2 hx
  have J:Fn n (L-1)=Lib.decDigits x0:=by
    unfold Fn
    rw[vY bas T,show L-1+1=L by omega,<-hL,Xbw]
    rfl
  have ab:(⟨(Lib.itoa (x0:Int)).toArray⟩:ByteArray).size<=9:=by rw[<-fE,iW,hI];exact ac _ aa
  have cW:=sG w.heap.size w.heap.size [] _ W1 h1 (by simp only[List.length_nil];omega:([]:List UInt8).length+(⟨(Lib.itoa (x0:Int)).toArray⟩:ByteArray).size<=_) O.size
  go_wp2_with (go_at_call 262;refine cW.mono ?_)
  rintro e W2 ⟨rfl,h2,b2⟩
  rw[Xax,iW,hI,<-J]at h2
  have b2:=O.trans b2
  have ah:∀k,(Fn n k).length<=9437184:=fun k=>by
    have:=Yh ((dP (b:=bas) (by decide) n).drop k) 1048576 (by rw[List.length_drop,hL];omega) (by omega)
    unfold Fn
    omega
  clear h0 b0 h1 O ab J
  go_wp2
  go_loopg [4] (L-1) (fun g s4 wx=>∃k:Nat,k<=L-1/\g=k/\s4=.int .i64 ((k:Int)-1)/\Lib.IsBuilder 280 5 w.heap.size w.heap.size (Lib.byteCells (Fn n k)) wx/\Below w.heap.size w wx)
  case atStart=>exact⟨L-1,Xaf _,rfl,by congr 1;omega,h2,b2⟩
  clear h2 b2
  case round=>
    obtain⟨_,hk,rfl,rfl,hB,u⟩:=hrel
    cases gk with
    | zero=>
      have ak:Fn n 0=Lib.decDigits n:=by unfold Fn;rw[Xbi,dU (by decide)]
      rw[ak]at hB
      have cS:=Tryz.Builder_String_any w.heap.size w.heap.size (Lib.decDigits n) wr hB u.size
      go_wp2_with (go_at_call 264;refine cS.mono ?_)
      rintro e W3 ⟨rfl,E⟩
      go_wp2
      go_ret
      exact⟨rfl,u.trans E⟩
    | succ i=>
      obtain⟨x,hx⟩:=aN (show i<(bI bas n).length by omega)
      have hl:=(u.cell hb).trans (hz i x hx)
      have ai:x<1000000000:=dP (b:=bas) (by decide) n x (Xae hx)
      have ag:(((i+1:Nat):Int)-1)=(i:Int):=by omega
      have M:=Re (n:=n) (by omega) hx
      have ad:Lib.TabIs prog wr "internal/strconv.uint64pow10" .u64 Lib.pow10Tab:=Go.Joins.tab_stays (g:=1) (by kernel_rfl) F u (Xaf _)
      have am:=ah (i+1)
      rw[ag]
      go_wp2_with (go_at_call 224;refine(Tryz.strconv_Itoa (x:Int) (by omega) (by omega) _ ad).mono ?_)
      rintro e W1 ⟨rfl,k,os,rfl⟩
      have O:Below w.heap.size w (grow (wr.drewN k) os):=u.trans ⟨rfl,rfl,rfl,(lM k os).size,fun i hi=>(lM k os).block i (Xbn hi u.size)⟩
      have h1:=rO hB (lM k os)
      clear hB ad
      generalize grow _ os=W1 at *
      have aj:=ac x ai
      rw[hI x]
      go_wp2_with (go_at_call 263;fail)
      have e9:(9:Int)-((Lib.decDigits x).length:Nat)=((9-(Lib.decDigits x).length:Nat):Int):=by omega
      rw[e9]
      refine(Tryz.strings_Repeat ⟨#[48]⟩ (9-(Lib.decDigits x).length) W1 (by omega) (by show 1*_<=_;omega)).mono ?_
      rintro e W3 ⟨rfl,E⟩
      have h3:=rO h1 E
      have E:Below w.heap.size w W3:=O.trans ⟨E.os,E.tape,E.output,E.size,fun i hi=>E.block i (Xbn hi O.size)⟩
      have I:bl ⟨(Lib.repeatL (⟨#[48]⟩:ByteArray).data.toList (9-(Lib.decDigits x).length)).toArray⟩=List.replicate (9-(Lib.decDigits x).length) 48:=by
        rw[iW]
        have:=Lib.repeatL_replicate 48 1 (9-(Lib.decDigits x).length)
        rwa [Nat.mul_one]at this
      clear h1 O
      generalize (⟨(Lib.repeatL (⟨#[48]⟩:ByteArray).data.toList (9-(Lib.decDigits x).length)).toArray⟩:ByteArray)=Z at *
      have hZ:Z.size<=9:=by rw[<-fE,I,List.length_replicate];omega
      have cW:=sG w.heap.size w.heap.size _ Z W3 h3 (by omega) E.size
      go_wp2_with (go_at_call 262;refine cW.mono ?_)
      rintro e W4 ⟨rfl,h4,b4⟩
      have b4:=E.trans b4
      clear cW h3 E
      have hX:(⟨(Lib.decDigits x).toArray⟩:ByteArray).size<=9:=by rw[<-fE,iW];exact aj
      have cW:=sG w.heap.size w.heap.size _ ⟨(Lib.decDigits x).toArray⟩ W4 h4 (by rw[Xab,fE];omega) b4.size
      go_wp2_with (go_at_call 262;refine cW.mono ?_)
      rintro e W5 ⟨rfl,h5,b5⟩
      have b5:=b4.trans b5
      rw[Xai,I,iW]at h5
      go_wp2
      go_roundg i
      case measure=>omega
      case rel=>exact⟨i,by omega,rfl,rfl,by rw[M];exact h5,b5⟩
theorem JC{S:Sg}{w:World}{b:Nat}:∀{l:List Nat} {o sz:Nat},0<sz->fY S w b sz o (l.map gS)->∀(i x:Nat),l[i]?=some x->w.cell? ⟨b,o+i,none⟩=some (.int .i64 x)
 | [],_,_,_,_,i,x,h=>by simp at h
 | y::l,o,sz,hp,h,i,x,hx=>by
   simp only[Xar,fY]at h;obtain⟨h1,F,I⟩:=h;have h1:sz=1:=h1.symm;subst h1;cases i with
   | zero=>
     simp only[List.getElem?_cons_zero,Option.some.injEq]at hx;subst hx;simp only[gS,cE]at F;obtain⟨⟨u,J,_,E⟩,_⟩:=F;simp only[rep]at E;subst E;exact J
   | succ i=>
     have:=JC (by omega) I i x (by simpa using hx)
     rwa [Xbo,Nat.add_comm 1 i]at this
theorem VU{w:World}(h:∀t∈SA,pI w t.1=some t.2):Lib.TabIs prog w "internal/strconv.uint64pow10" .u64 Lib.pow10Tab:=by
 have h1:=h (1,UY) (by simp[SA]);unfold Lib.TabIs World.var?;rw[show prog.globalNamed "internal/strconv.uint64pow10" = some 1 by kernel_rfl];exact h1
theorem E3(n:Nat)(M:(bI bas n).length<=1048576):PC prog 225 [nl n] (str (dec n)):=by
 by_cases h0:n=0
 . subst h0
   rw[IA];refine pcd Tryz.func225 ?_;unfold Tryz.f225;simp only[gdS];simp only[go_sem];refine aB (fun h=>?_) (fun h=>by simp at h);simp only[go_sem];refine cS ?_;refine kV ?_;rw[lI,Lib.decDigits_one (by omega)];rfl
 . intro S w vals F hf ha
   simp only[bF,rep]at ha;obtain⟨y,t,rfl,⟨ad,m,c,rfl,e1,e2,e3,O⟩,rfl⟩:=ha;have J:bI bas n≠[]:=fun e=>h0 ((oY (by decide)).1 e)
   have I:=Xbu.2 J;rw[Xaa]at e1;rcases O with O|⟨b,o,sz,rfl,T,Z,E⟩
   . simp only[List.map_eq_nil_iff]at O;exact absurd O J
   . subst e1
     refine(Kt n w b o c M I (JC Z E) (F.fz_lt b (F.ro_fz b T)) (VU fun t ht=>(F.tabs t ht).2)).mono fun e w' ⟨he,u⟩=>?_
     exact⟨_,_,bT,S,he,rfl,F.after u.size fun k hk=>u.block k hk,by simp only[rep],F.grow u.os u.tape u.output u.size fun k hk=>u.block k hk,eH.refl _ _⟩
theorem Ac(n:Nat)(u:(bI bas n).length<=1048576):PC prog 181 [nl n] (.tup [str (szN n).1,int (szN n).2]):=by
 refine pcd Tryz.func181 ?_;unfold Tryz.f181;simp only[gdS];simp only[go_sem];refine PC.use (E3 n u) ?_;simp only[go_sem];have E:=hJ n;refine aB (fun h=>?_) (fun h=>?_)
 . have h:4096<(dec n).size:=by simp at h;omega
   simp only[go_sem];rw[show szN n=(emp,4)from if_neg fun e=>by have:=E.2 e;omega];exact .refl _
 . have h:(dec n).size<=4096:=by simp at h;omega
   simp only[go_sem];rw[Bw (E.1 h)];exact .refl _
end Go.Proofs.YtohmomanmikphaaGreatDoor.Nu
end
section
namespace Go.Proofs.YtohmomanmikphaaGreatDoor.Nu
open Go.Proofs.Tryz(prog)
open Go.Aw Go.Aw.D Go.Proofs Ty Go.Nu
theorem Po{n K:Nat}(h:n<dB)(u:XZ<=9*K):(bI bas n).length<=K:=by
 refine iZ (b:=bas) (k:=K) (by decide) (Xbn h ?_);rw[show bas=10^9 from rfl,<-Nat.pow_mul];exact Xav (show 0<10 by omega) u
theorem jO{n:Nat}(h:n<dB):(bI bas n).length<=457:=Po h (by decide)
theorem WA{H:aG}{o l:List Nat}(h:l=o):ConvE H (cH o).es (l.map gS):=h▸ConvE.refl _
theorem Gy:∀l:List Nat,kP l=l.take (kP l).length
 | []=>rfl
 | x::l=>by
   have ih:=Gy l;rw[kP];split
   . split <;> rfl
   . rename_i y t e
     rw[e]at ih;simp only[Xad,List.take_succ_cons]
     congr 1
theorem Sv{l:List Nat}(h:l.length<=(kP l).length):kP l=l:=by
 rw[Gy l,Xan h]
theorem Ux(a b:ByteArray)(ha:a.size<=1048576)(F:b.size<=1048576):PC prog 168 [str a,str b] (.tup [str (NK a b).1,int (NK a b).2]):=by
 refine pcb (fun t=>t == 9) Tryz.func168 ?_;unfold Tryz.f168;simp only[gdS];simp only[go_sem];refine PC.use (K9 a b ha F) ?_;simp only[go_sem];refine aB (fun h=>?_) (fun h=>?_)
 . have h:jD a b≠0:=by simpa using h
   simp only[go_sem];rw[show NK a b=(emp,jD a b)from if_neg h];exact .refl _
 have h:jD a b=0:=by simpa using h
 obtain⟨m,n,rfl,rfl,hm,hn⟩:=sO h;have ah:=jO hm;have af:=jO hn;simp only[go_sem,EM h,cF];rw[show NK (dec m) (dec n)=szN (m+n)by unfold NK;rw[if_pos h,cF,cF]];have om:=dU (b:=bas) (by decide) m;have on:=dU (b:=bas) (by decide) n;have lm:=dP (b:=bas) (by decide) m;have ln:=dP (b:=bas) (by decide) n;have ad:(bI bas m).length<=(bI bas m).length:=Xaf _;have ab:(bI bas n).length<=(bI bas n).length:=Xaf _;obtain⟨x,hx⟩:∃x,bI bas m=x:=⟨_,rfl⟩;obtain⟨y,hy⟩:∃y,bI bas n=y:=⟨_,rfl⟩;have ad:x.length<=(bI bas m).length:=by rw[hx];exact Xaf _
 have ab:y.length<=(bI bas n).length:=by rw[hy];exact Xaf _
 rw[hx]at om lm ah;rw[hy]at on ln af;simp only[hx,hy];refine aM fun j hj=>?_
 refine⟨fun ρ H=>∃(i j c:Nat) (o:List Nat),i<=max x.length y.length+1/\ρ 6=.sl (x.map gS)/\ρ 7=.sl (y.map gS)/\ρ 9=.os j/\ρ 10=int c/\ρ 11=int i/\H j=some (cH o)/\Lim bas o/\o.length=i/\c<=1/\ofL bas o+bas^i*c=ofL bas (x.take i)+ofL bas (y.take i)/\(i=max x.length y.length+1->c=0/\bas^max x.length y.length<=m+n),fun ρ _=>max x.length y.length+1-aV (ρ 11),
   ⟨0,j,0,[],Xac _,by simp only[go_sem],by simp only[go_sem],by simp only[go_sem],by simp only[go_sem];rfl,by simp only[go_sem];rfl,Dj,by simp[Lim],rfl,by omega,by simp[ofL],by omega⟩,?_⟩
 clear hj j;rintro ρ H ⟨i,j,c,o,hi,T,h7,Z,u,E,Rj,ho,O,hc,hv,I⟩;have aa:jW (x.length:Int) (y.length:Int)=((max x.length y.length:Nat):Int):=by unfold jW;split <;> omega
 simp only[go_sem,T,h7,Z,u,E,aa];refine aB (fun F=>?_) (fun F=>?_)
 . have F:i<max x.length y.length\/0<c:=by simpa using F
   have am:i<=max x.length y.length:=by
     rcases F with F|F
     . omega
     . rcases Xaw (max x.length y.length) i with h|h
       . have:=(I (by omega)).1;omega
       . exact h
   have an:x.getD i 0<1000000000:=lm.getD (by decide) i;have al:y.getD i 0<1000000000:=ln.getD (by decide) i;have ai:=Ug (b:=bas) (by decide) O hv;have M:i+1=max x.length y.length+1->(x.getD i 0+y.getD i 0+c)/bas=0/\bas^max x.length y.length<=m+n:=fun e=>by
     have e:i=max x.length y.length:=by omega
     have aj:x.getD i 0=0:=by simp[List.getD,List.getElem?_eq_none (by omega:x.length<=i)]
     have ag:y.getD i 0=0:=by simp[List.getD,List.getElem?_eq_none (by omega:y.length<=i)]
     have ac:c=1:=by omega
     rw[aj,ag,ac];refine⟨by decide,?_⟩;rw[Xan (by omega),Xan (by omega),om,on,ac,e]at hv;omega
   simp only[go_sem,T,h7,Z,u,E];refine PC.use (OF x i (by omega)) ?_;simp only[go_sem,T,h7,Z,u,E];refine PC.use (OF y i (by omega)) ?_;have e1:IntKind.i64.wrap (IntKind.i64.wrap (((x.getD i 0:Nat):Int)+((y.getD i 0:Nat):Int))+(c:Int))=((x.getD i 0+y.getD i 0+c:Nat):Int):=by
     rw[show IntKind.i64.wrap (((x.getD i 0:Nat):Int)+((y.getD i 0:Nat):Int))=((x.getD i 0:Nat):Int)+((y.getD i 0:Nat):Int)from bA (by omega),bA (by omega)];omega
   have e2:IntKind.i64.wrap ((((x.getD i 0+y.getD i 0+c:Nat):Int)).tdiv 1000000000)=(((x.getD i 0+y.getD i 0+c)/1000000000:Nat):Int):=by
     rw[Xcc (by omega),bA (by omega)];omega
   have e3:(((x.getD i 0+y.getD i 0+c:Nat):Int)).tmod 1000000000=(((x.getD i 0+y.getD i 0+c)%1000000000:Nat):Int):=by
     rw[Xce (by omega)];omega
   have hq:(x.getD i 0+y.getD i 0+c)/1000000000<=1:=by omega
   simp only[go_sem,T,h7,Z,u,E,e1,e2,e3];refine⟨by decide,?_⟩;refine bE Rj ⟨rfl,rfl⟩ ⟨rfl,trivial⟩ (by simp only[cH,Xaa,Xad,List.length_nil];omega) (fun j' ak=>?_);simp only[go_sem,T,h7,Z,u,E,e2,aP (show i<=4611686018427387904 by omega)];exact⟨by decide,⟨i+1,j',_,o++[(x.getD i 0+y.getD i 0+c)%bas],by omega,rfl,rfl,rfl,sV,ho.snoc (Nat.mod_lt _ (by decide)),by simp[O],hq,ai,M⟩,by simp only[aF];omega⟩
 . have F : max x.length y.length <= i /\ c = 0 := by
     simp at F;omega
   obtain⟨F,rfl⟩:=F;rw[Nat.mul_zero,Nat.add_zero,Xan (by omega),Xan (by omega),om,on]at hv;have ht:=ID (b:=bas) (by decide) ho hv;have ae:o.length<=(bI bas (m+n)).length:=by
     rcases Xaw (max x.length y.length) i with h|h
     . have:=IK (b:=bas) (by decide) (I (by omega)).2
       omega
     . rw[O,show i=max x.length y.length by omega]
       exact Nat.max_le.2 ⟨Xaj ad (eC (by decide) (Nat.le_add_right m n)),Xaj ab (eC (by decide) (Nat.le_add_left n m))⟩
   have J:bI bas (m+n)=o:=by
     rw[<-ht];refine Sv ?_;rw[ht] ;exact ae
   simp only[go_sem,T,h7,Z,u,E];refine PC.useF [j] (.cons _ _ _ _ (.row _ _ _ (by simp only[Xat,if_true];exact Rj) (WA J)) .nil) (Ac (m+n) (by rw[J];omega)) ?_;simp only[go_sem];exact .refl _
theorem Us(a b:ByteArray)(ha:a.size<=1048576)(O:b.size<=1048576):PC prog 169 [str a,str b] (.tup [str (Nj a b).1,int (Nj a b).2]):=by
 refine pcd Tryz.func169 ?_;unfold Tryz.f169;simp only[gdS];simp only[go_sem];refine PC.use (K9 a b ha O) ?_;simp only[go_sem];refine aB (fun h=>?_) (fun h=>?_)
 . have h:jD a b≠0:=by simpa using h
   simp only[go_sem];rw[show Nj a b=(emp,jD a b)from if_neg h];exact .refl _
 have h:jD a b=0:=by simpa using h
 obtain⟨m,n,rfl,rfl,T,J⟩:=sO h;have M:=jO T;have Z:=jO J;simp only[go_sem,EM h,cF];have e:Nj (dec m) (dec n)=if m<n then(emp,2)else szN (m-n):=by unfold Nj;rw[if_pos h,cF,cF]
 rw[e];refine PC.use (Bx m n (by omega) (by omega)) ?_;simp only[go_sem];refine aB (fun u=>?_) (fun u=>?_)
 . have I : m < n := by
     rcases Xaw m n with E|E
     . exact E
     . exfalso
       have u:=of_decide_eq_true u;unfold iK at u;rw[if_neg (by omega)]at u;split at u <;> omega
   simp only[go_sem];rw[if_pos I];exact .refl _
 . have F:¬m<n:=fun E=>of_decide_eq_false u (by rw[iP (by omega)];decide)
   simp only[go_sem];rw[if_neg F];refine PC.use (Di m n (by omega) (by omega)) ?_;simp only[go_sem];refine PC.use (Ac (m-n) (by have:=eC (b:=bas) (by decide) (Nat.sub_le m n);omega)) ?_;simp only[go_sem];exact .refl _
theorem adS(a b:ByteArray)(O:a.size<=1048576)(I:b.size<=1048576):PC prog 167 [str a,str b] (.tup [str (Js a b).1,str (Js a b).2.1,int (Js a b).2.2]):=by
 refine pcd Tryz.func167 ?_;unfold Tryz.f167;simp only[gdS];simp only[go_sem];refine PC.use (K9 a b O I) ?_;simp only[go_sem];refine aB (fun h=>?_) (fun h=>?_)
 . have h:jD a b≠0:=by simpa using h
   simp only[go_sem];rw[show Js a b=(emp,emp,jD a b)from if_neg h];exact .refl _
 have h:jD a b=0:=by simpa using h
 obtain⟨m,n,rfl,rfl,J,E⟩:=sO h;have F:=jO J;have M:=jO E;simp only[go_sem,EM h,cF,Xaa];have e:Js (dec m) (dec n)=if n=0 then(emp,emp,10)else(dec (m/n),dec (m%n),0):=by unfold Js;rw[if_pos h,cF,cF]
 rw[e];refine aB (fun u=>?_) (fun u=>?_)
 . have h0:n=0:=(oY (b:=bas) (by decide)).1 (by simpa using u)
   simp only[go_sem];rw[if_pos h0];exact .refl _
 . have h0:n≠0:=fun e=>by subst e;rw[dW]at u;simp at u
   simp only[go_sem];rw[if_neg h0];refine PC.use (JH m n (by omega) (by omega) (by omega)) ?_;simp only[go_sem];refine PC.use (E3 (m/n) (by have:=eC (b:=bas) (by decide) (Nat.div_le_self m n);omega)) ?_;simp only[go_sem];refine PC.use (E3 (m%n) (by have:=eC (b:=bas) (by decide) (Nat.mod_le m n);omega)) ?_;simp only[go_sem];exact .refl _
theorem U4(a b:ByteArray)(ha:a.size<=1048576)(u:b.size<=1048576):PC prog 111 [str a,str b] (.tup [str (IZ a b).1,int (IZ a b).2]):=by
 refine pcd Tryz.func111 ?_;unfold Tryz.f111;simp only[gdS];simp only[go_sem];refine PC.use (K9 a b ha u) ?_;simp only[go_sem];refine aB (fun h=>?_) (fun h=>?_)
 . have h:jD a b≠0:=by simpa using h
   simp only[go_sem];rw[show IZ a b=(emp,jD a b)from if_neg h];exact .refl _
 have h:jD a b=0:=by simpa using h
 obtain⟨m,n,rfl,rfl,hm,hn⟩:=sO h;have Z:=jO hm;have T:=jO hn;simp only[go_sem,EM h,cF];have e:IZ (dec m) (dec n)=szN (Nat.gcd m n):=by unfold IZ;rw[if_pos h,cF,cF]
 rw[e];refine⟨fun ρ _=>∃p q:Nat,ρ 6=nl p/\ρ 7=nl q/\(bI bas p).length<=457/\(bI bas q).length<=457/\Nat.gcd p q=Nat.gcd m n,fun ρ _=>match ρ 7 with| .sl es=>ofL bas (es.map fun c=>aV (c.getD 0 .any))|_=>0,⟨m,n,by simp only[go_sem],by simp only[go_sem],Z,T,rfl⟩,?_⟩;rintro ρ H ⟨p,q,M,J,aa,I,O⟩;have F:∀q:Nat,ofL bas (((bI bas q).map gS).map fun c=>aV (c.getD 0 .any))=q:=fun q=>by
   rw[List.map_map,show((fun c:List AV=>aV (c.getD 0 .any)) ∘ gS)=id from funext fun n=>by simp[gS,aV],List.map_id,dU (by decide)]
 simp only[go_sem,M,J,Xaa];refine aB (fun u=>?_) (fun u=>?_)
 . have E : 0 < q := by
     rcases Xbp q with h0|h0
     . subst h0;rw[dW]at u;simp at u
     . exact h0
   simp only[go_sem,M,J];refine PC.use (JH p q (by omega) E (by omega)) ?_;simp only[go_sem,M,J];refine⟨⟨q,p%q,rfl,rfl,I,Xaj (eC (by decide) (Nat.le_of_lt (Nat.mod_lt p E))) I,?_⟩,?_⟩
   . rw[<-O,Nat.gcd_comm p q,Nat.gcd_rec q p,Nat.gcd_comm]
   . rw[F,F];exact Nat.mod_lt p E
 . have E : q = 0 := by
     have:(bI bas q).length=0:=by simp at u;simpa using u
     exact(oY (b:=bas) (by decide)).1 (List.eq_nil_of_length_eq_zero this)
   subst E;simp only[go_sem,M,J];rw[Nat.gcd_zero_right]at O;rw[<-O];refine PC.use (Ac p (by omega)) ?_;simp only[go_sem];exact .refl _
theorem Zq{b:Nat}(F:0<b){l:List Nat}{q p:Nat}(h:ofL b l<b^q)(J:q<=p)(I:p<l.length):l[p]?=some 0:=by
 obtain⟨x,u⟩:=aN I;rcases Xbp x with h0|h0
 . rw[u,h0]
 . exfalso
   have E:ofL b l=ofL b (l.take p)+b^p*ofL b (l.drop p):=by
     have:=nP b (l.take p) (l.drop p);rw[Xcb,Xal,Nat.min_eq_left (by omega)]at this;exact this
   rw[vY b u]at E;have h1:b^p*1<=b^p*(x+b*ofL b (l.drop (p+1))):=Nat.mul_le_mul_left _ (by omega);have M:b^q<=b^p:=Xav F J;omega
theorem afI(a b:ByteArray)(ha:a.size<=1048576)(hb:b.size<=1048576):PC prog 295 [str a,str b] (.tup [str (OK a b).1,int (OK a b).2]):=by
 refine pcb (fun t=>t == 9) Tryz.func295 ?_;unfold Tryz.f295;simp only[gdS];simp only[go_sem];refine PC.use (K9 a b ha hb) ?_;simp only[go_sem];refine aB (fun h=>?_) (fun h=>?_)
 . have h:jD a b≠0:=by simpa using h
   simp only[go_sem];rw[show OK a b=(emp,jD a b)from if_neg h];exact .refl _
 have h:jD a b=0:=by simpa using h
 obtain⟨m,n,rfl,rfl,hm,hn⟩:=sO h;have au:=jO hm;have aq:=jO hn;simp only[go_sem,EM h,cF,Xaa];rw[show OK (dec m) (dec n)=szN (m*n)by unfold OK;rw[if_pos h,cF,cF]];have om:=dU (b:=bas) (by decide) m;have on:=dU (b:=bas) (by decide) n;have lm:=dP (b:=bas) (by decide) m;have ln:=dP (b:=bas) (by decide) n;have ap:(bI bas (m*n)).length<=(bI bas m).length+(bI bas n).length:=by
   refine iZ (by decide) ?_;have h1:=mE (b:=bas) (by decide) lm;have h2:=mE (b:=bas) (by decide) ln;rw[om]at h1;rw[on]at h2;rw[Nat.pow_add];exact Nat.mul_lt_mul'' h1 h2
 obtain⟨x,hx⟩:∃x,bI bas m=x:=⟨_,rfl⟩;obtain⟨y,hy⟩:∃y,bI bas n=y:=⟨_,rfl⟩;rw[hx]at om lm au ap;rw[hy]at on ln aq ap;have ew:IntKind.i64.wrap ((x.length:Int)+(y.length:Int))=((x.length+y.length:Nat):Int):=by rw[bA (by omega)];omega
 simp only[hx,hy,ew];refine⟨by omega,aM fun j hj=>?_⟩;simp only[go_sem];refine⟨fun ρ H=>∃(i:Nat) (out:List Nat),i<=x.length/\ρ 7=.sl (y.map gS)/\ρ 9=.os j/\ρ 32=.sl (x.map gS)/\ρ 33=int x.length/\ρ 34=int i/\H j=some (cH out)/\Lim bas out/\out.length=x.length+y.length/\ofL bas out=ofL bas (x.take i)*ofL bas y,fun ρ _=>x.length-aV (ρ 34),
   ⟨0,List.replicate (x.length+y.length) 0,Xac _,by simp only[go_sem],by simp only[go_sem],by simp only[go_sem],by simp only[go_sem,Xaa],by simp only[go_sem];rfl,?_,Lim.zeros (by decide) _,by simp,by simp[ofL,SU]⟩,?_⟩
 . rw[aA]
   simp only[cH,List.map_replicate,GS];rfl
 clear hj;rintro ρ H ⟨i,out,hi,h7,Z,u,F,E,Rj,ho,aw,hv⟩;simp only[go_sem,h7,Z,u,F,E];refine aB (fun ab=>?_) (fun al=>?_)
 . have ab:=ltB ab
   obtain⟨I,ak⟩:=aN ab;have b1:=inB ab;have az:I<1000000000:=lm I (Xae ak);have av:out[i+y.length]?=some 0:=by
     refine Zq (b:=bas) (by decide) (q:=i+y.length) ?_ (Xaf _) (by omega);rw[hv,Nat.pow_add];have h1:=mE (b:=bas) (by decide) (lm.take i);rw[Xal,Nat.min_eq_left hi]at h1;exact Nat.mul_lt_mul'' h1 (mE (b:=bas) (by decide) ln)
   simp only[go_sem,h7,Z,u,F,E,aE ak,b1,Xaa];refine⟨fun ρ H=>∃(k c:Nat) (o:List Nat),k<=y.length/\ρ 7=.sl (y.map gS)/\ρ 9=.os j/\ρ 10=int i/\ρ 11=int I/\ρ 12=int c/\ρ 32=.sl (x.map gS)/\ρ 33=int x.length/\ρ 34=int i/\ρ 39=.sl (y.map gS)/\ρ 40=int y.length/\ρ 41=int k/\H j=some (cH o)/\Lim bas o/\o.length=x.length+y.length/\c<1000000000/\ofL bas o+bas^(i+k)*c=ofL bas out+bas^i*(I*ofL bas (y.take k))/\o[i+y.length]?=some 0,fun ρ _=>y.length-aV (ρ 41),
     ⟨0,0,out,Xac _,by simp only[go_sem,h7],by simp only[go_sem,Z],by simp only[go_sem],by simp only[go_sem],by simp only[go_sem];rfl,by simp only[go_sem,u],by simp only[go_sem,F],by simp only[go_sem,E],by simp only[go_sem,h7],by simp only[go_sem,Xaa],by simp only[go_sem];rfl,Rj,ho,aw,by omega,by simp[ofL],av⟩,?_⟩
   clear h7 Z u F E Rj;rintro ρ H ⟨k,c,o,hk,h7,Z,ae,af,aa,u,F,E,ad,T,ac,Rj,hO,an,hc,hV,hZ⟩;simp only[go_sem,h7,Z,ae,af,aa,u,F,E,ad,T,ac];refine aB (fun M=>?_) (fun ag=>?_)
   . have M:=ltB M
     obtain⟨J,ai⟩:=aN M;have b2:=inB M;have ay:J<1000000000:=ln J (Xae ai);obtain⟨v,ah⟩:=aN (show i+k<o.length by omega);have a0:v<1000000000:=hO v (Xae ah);have b3:0<=((i+k:Nat):Int)/\((i+k:Nat):Int)<((cH o).es.length:Nat):=by
       simp only[cH,Xaa];omega
     have ei:IntKind.i64.wrap ((i:Int)+(k:Int))=((i+k:Nat):Int):=by rw[bA (by omega)];omega
     have am:(cH o).es.getD (i+k) []=gS v:=aE ah;have ax:I*J<=999999999*999999999:=Nat.mul_le_mul (by omega) (by omega);have ar:=VZ (b:=bas) (by decide) ah ai hV;have e1:IntKind.i64.wrap (IntKind.i64.wrap ((v:Int)+IntKind.i64.wrap ((I:Int)*(J:Int)))+(c:Int))=((v+I*J+c:Nat):Int):=by
       rw[show(I:Int)*(J:Int)=((I*J:Nat):Int)from(Int.natCast_mul I J).symm];generalize I*J=p at *;rw[show IntKind.i64.wrap (p:Int)=(p:Int)from bA (by omega),show IntKind.i64.wrap ((v:Int)+(p:Int))=(v:Int)+p from bA (by omega),bA (by omega)];omega
     have hq:(v+I*J+c)/1000000000<1000000000:=by omega
     have e2:IntKind.i64.wrap ((((v+I*J+c:Nat):Int)).tdiv 1000000000)=(((v+I*J+c)/1000000000:Nat):Int):=by
       generalize v+I*J+c=p at *;rw[Xcc (by omega),bA (by omega)];omega
     have e3:(((v+I*J+c:Nat):Int)).tmod 1000000000=(((v+I*J+c)%1000000000:Nat):Int):=by
       rw[Xce (by omega)];omega
     simp only[go_sem,h7,Z,ae,af,aa,u,F,E,ad,T,ac,aE ai,b2,ei,Rj,b3,am,e1,e2,e3];have O:i+k<(cH o).es.length:=by simp only[cH,Xaa];omega
     refine⟨rfl,⟨O,Nat.zero_lt_one⟩,by decide,rfl,eF so3 Rj ⟨O,rfl,Xaf 1⟩ ?_⟩;generalize hP:aI H j _=HP;have aj:HP j=some (cH (o.set (i+k) ((v+I*J+c)%bas))):=by
       rw[<-hP,aA];exact congrArg some (Do (q:=(v+I*J+c)%bas) ah)
     clear hP Rj;simp only[go_sem,h7,Z,ae,af,aa,u,F,E,ad,T,ac,e2,aP (show k<=4611686018427387904 by omega)];refine⟨by decide,⟨k+1,_,_,M,rfl,rfl,aj,hO.set (Nat.mod_lt _ (by decide)),by simp[an],hq,ar,?_⟩,by simp only[aF];omega⟩;rw[List.getElem?_set_ne (by omega)];exact hZ
   . have ag:=geB hk ag
     subst ag;have ei:IntKind.i64.wrap ((i:Int)+(y.length:Int))=((i+y.length:Nat):Int):=by rw[bA (by omega)];omega
     have O:i+y.length<(cH o).es.length:=by simp only[cH,Xaa];omega
     have b3:0<=((i+y.length:Nat):Int)/\((i+y.length:Nat):Int)<((cH o).es.length:Nat):=by omega
     have am:(cH o).es.getD (i+y.length) []=gS 0:=aE hZ;have e1:IntKind.i64.wrap (((0:Nat):Int)+(c:Int))=(c:Int):=by rw[bA (by omega)];omega
     simp only[go_sem,h7,Z,ae,af,aa,u,F,E,ad,T,ac,Xaa,ei,Rj,b3,am,e1];refine⟨rfl,⟨O,Nat.zero_lt_one⟩,rfl,eF so3 Rj ⟨O,rfl,Xaf 1⟩ ?_⟩;generalize hP:aI H j _=HP;have aj:HP j=some (cH (o.set (i+y.length) c)):=by
       rw[<-hP,aA];exact congrArg some (Do (q:=c) hZ)
     clear hP Rj;have ao:=aaM (b:=bas) hZ hV;simp only[go_sem,h7,Z,ae,af,aa,u,F,E,ad,T,ac,aP (show i<=4611686018427387904 by omega)];refine⟨⟨i+1,_,ab,rfl,aj,hO.set hc,by simp[an],?_⟩,by simp only[aF];omega⟩;rw[ao,hv,jN bas ak,Nat.add_mul,Nat.mul_assoc]
 . have al:=geB hi al
   subst al;simp only[go_sem,Z];rw[Xag,om,on]at hv;refine PC.useF [j] (.cons _ _ _ _ (.row _ _ _ (by simp only[Xat,if_true];exact Rj) (ConvE.refl _)) .nil) (F0 ho (by omega) hv) ?_;simp only[go_sem];refine PC.use (Ac (m*n) (by omega)) ?_;simp only[go_sem];exact .refl _
end Go.Proofs.YtohmomanmikphaaGreatDoor.Nu
end
section
namespace Go.Proofs.YtohmomanmikphaaGreatDoor.Nu
open Go.Proofs.Tryz(prog)
open Go.Aw Go.Aw.D Go.Proofs Ty Go.Nu
open Go.RowKit (Below)
theorem Ks(s:ByteArray):Lib.hasPrefix (bl s) [45]=iA s:=by
 unfold Lib.hasPrefix iA;cases bl s with
 | nil=>rfl
 | cons c r=>
   by_cases h:c=45
   . subst h;rfl
   . have h1:(some c == some (45:UInt8))=false:=by simpa using h
     have u:((45:UInt8) == c)=false:=by simpa using Ne.symm h
     simp only[List.isPrefixOf,List.head?_cons,h1,u,Bool.false_and]
theorem F8(s:ByteArray):(⟨(Lib.trimPrefix (bl s) [45]).toArray⟩:ByteArray)=eD s:=by
 unfold Lib.trimPrefix eD;rw[Ks];split
 . rfl
 . exact akX s
theorem Nn(s:ByteArray):PC prog 184 [str s,str ⟨#[45]⟩] (.tup [str (eD s),boo (iA s)]):=by
 refine PC.lib (a:=[.string s,.string ⟨#[45]⟩]) (v:=.tuple #[.string (eD s),.bool (iA s)]) (fun S w=>⟨_,rfl,⟨_,_,rfl,rfl,⟨_,_,rfl,rfl,rfl⟩⟩⟩) fun w _=>(Tryz.strings_CutPrefix s ⟨#[45]⟩ w).mono fun e w' ⟨E,u⟩=>?_
 rw[u];refine⟨E.trans ?_,Below.refl _ _⟩;rw[show s.data.toList=bl s from rfl,show(⟨#[45]⟩:ByteArray).data.toList=[45]from rfl,F8,Ks]
theorem xC(s:ByteArray):PC prog 112 [str s,str ⟨#[45]⟩] (str (eD s)):=by
 refine PC.lib (a:=[.string s,.string ⟨#[45]⟩]) (v:=.string (eD s)) (fun S w=>rfl) fun w _=>(Tryz.strings_TrimPrefix s ⟨#[45]⟩ w).mono fun e w' ⟨E,u⟩=>?_
 rw[u];refine⟨E.trans ?_,Below.refl _ _⟩;rw[show s.data.toList=bl s from rfl,show(⟨#[45]⟩:ByteArray).data.toList=[45]from rfl,F8]
theorem OX(n:Int)(h0: -9223372036854775808<=n)(h1:n<=9223372036854775807):PC prog 224 [int n] (str (zed n)):=by
 refine PC.lib (a:=[.int .i64 n]) (v:=.string (zed n)) (fun S w=>rfl) fun w u=>(Tryz.strconv_Itoa n h0 h1 w (VU u)).mono fun e w' ⟨F,k,os,E⟩=>?_
 rw[E];exact⟨F,lM k os⟩
theorem MD(a b:ByteArray):PC prog 229 [str a,str b] (int (Lib.compareBytes (bl a) (bl b))):=by
 refine PC.lib (a:=[.string a,.string b]) (v:=.int .i64 (Lib.compareBytes (bl a) (bl b))) (fun S w=>rfl) fun w _=>(Tryz.strings_Compare a b w).mono fun e w' ⟨E,u⟩=>?_
 rw[u];exact⟨E,Below.refl _ _⟩
theorem A6:(⟨#[48]⟩:ByteArray)=dec 0:=kV (by rw[lI,Lib.decDigits_one (by omega)];rfl)
theorem Dq:(⟨#[49]⟩:ByteArray)=dec 1:=kV (by rw[lI,Lib.decDigits_one (by omega)];rfl)
theorem tS(s:ByteArray):(bl s == [48])=eqB s (dec 0):=by unfold eqB;rw[<-A6];rfl
theorem Pm(s:ByteArray):(bl s == [49])=eqB s (dec 1):=by unfold eqB;rw[<-Dq];rfl
theorem H9(s:ByteArray):(eD s).size<=s.size:=by
 unfold eD;split
 . rw[<-fE,<-fE,iW,List.length_drop];omega
 . exact Xaf _
theorem Ap(s:ByteArray)(h:s.size<=1048576):PC prog 114 [str s] (.tup [boo (iA s),str (eD s),boo (fB s)]):=by
 refine pcd Tryz.func114 ?_;unfold Tryz.f114;simp only[gdS];simp only[go_sem];refine PC.use (Nn s) ?_;simp only[go_sem];refine PC.use (A8 (eD s) (by have:=H9 s;omega)) ?_;simp only[go_sem,tS];exact .refl _
theorem Va(s:ByteArray)(h:s.size<=1048576):PC prog 107 [str s] (boo (fB s)):=by
 refine pcd Tryz.func107 ?_;unfold Tryz.f107;simp only[gdS];simp only[go_sem];refine PC.use (Ap s h) ?_;simp only[go_sem];exact .refl _
theorem anT(n:Int)(h0: -9223372036854775808<=n)(h1:n<=9223372036854775807):PC prog 165 [int n] (str (zed n)):=by
 refine pcd Tryz.func165 ?_;unfold Tryz.f165;simp only[gdS];simp only[go_sem];refine PC.use (OX n h0 h1) ?_;simp only[go_sem];exact .refl _
theorem X5(s:ByteArray)(h:s.size<=1048576):PC prog 65 [str s] (int (KH s)):=by
 refine pcd Tryz.func65 ?_;unfold Tryz.f65;simp only[gdS];simp only[go_sem];refine PC.use (Ap s h) ?_;simp only[go_sem,tS];refine aB (fun E=>?_) (fun E=>?_)
 . simp only[go_sem]
   refine cI ?_;unfold KH;by_cases u:fB s=true
   . rw[if_pos u]
     have I:eqB (eD s) (dec 0)=true:=by rw[u]at E;simpa using E
     have:iT s=0:=by
       unfold iT;rw[rC.1 I,cF];split <;> rfl
     rw[this];rfl
   . rw[if_neg u]
 . have u:fB s=true/\eqB (eD s) (dec 0)=false:=by simpa using E
   have J:fO (eD s)=true:=by
     have:=u.1;unfold fB at this;simp only[Xap]at this;exact this.1
   have M:0<eZ (eD s):=by
     rcases Xbp (eZ (eD s))with h0|h0
     . have:=kE J
       rw[h0]at this;exact absurd this.symm (pH.1 u.2)
     . exact h0
   simp only[go_sem];refine aB (fun F=>?_) (fun F=>?_)
   . simp only[go_sem]
     refine cI ?_;unfold KH iT;rw[if_pos u.1,if_pos F,Int.sign_eq_neg_one_of_neg (by omega)]
   . simp only[go_sem]
     refine cI ?_;unfold KH iT;rw[if_pos u.1,if_neg (by rw[F];simp),Int.sign_eq_one_of_pos (by omega)]
def sg(m:Bool)(n:Nat):Int:=if m=true then -(n:Int)else n
theorem Yu(m:Bool)(n:Nat):(if(m&& !eqB (dec n) (dec 0))=true then(⟨#[45]⟩:ByteArray)++dec n else dec n)=zed (sg m n):=by
 unfold sg;by_cases u:n=0
 . subst u
   rw[show eqB (dec 0) (dec 0)=true from rC.2 rfl];simp only[Xcd,Bool.and_false,Xay,if_false];rw[<-fD];split <;> rfl
 . rw[show eqB (dec n) (dec 0)=false from pH.2 fun e=>u (uU.1 e)]
   cases m with
   | true=>
     simp only[Bool.not_false,Bool.and_true,if_true];rw[As (by omega)];refine kV ?_;rw[Bv,iW,lI];rfl
   | false=>
     simp only[Bool.false_and,Xay,if_false];rw[fD]
theorem Ou(m:Bool)(n:Nat)(J:(dec n).size<=1048576):PC prog 170 [.agg [boo m,str (dec n)]] (str (zed (sg m n))):=by
 refine pcb (fun t=>t == 1) Tryz.func170 ?_;unfold Tryz.f170;simp only[gdS];simp only[go_sem];refine aM fun j I=>?_
 have R:=aA bT j (some ⟨208,2,[[boo m,str (dec n)]]⟩);generalize aI bT j _=H1 at R |-;simp only[go_sem,R];have u:=Yu m n;have F:(m&& !bl (dec n) == [48])=(m&& !eqB (dec n) (dec 0)):=by rw[<-tS]
 rw[F];refine aB (fun E=>?_) (fun E=>?_)
 . rw[if_pos E]at u
   simp only[go_sem,R];refine⟨by show((1+(dec n).size:Nat):Int)<=9223372036854775807;omega,?_⟩;exact cS u
 . rw[if_neg (by rw[E];simp)]at u
   simp only[go_sem,R];exact cS u
theorem UE(m:Bool)(n:Nat):(sg m n).natAbs=n:=by unfold sg;split <;> omega
theorem Ef(m:Bool)(n:Nat):PC prog 260 [.agg [boo m,str (szN n).1],int (szN n).2] (.tup [str (szZ (sg m n)).1,int (szZ (sg m n)).2]):=by
 by_cases u:n<dB
 . have I:=(hJ n).2 u
   rw[Bw u,show szZ (sg m n)=(zed (sg m n),0)from if_pos (by rw[UE];exact u)];refine pcb (fun t=>t == 2) Tryz.func260 ?_;unfold Tryz.f260;simp only[gdS];simp only[go_sem];refine aM fun j F=>?_
   have R:=aA bT j (some ⟨208,2,[[boo m,str (dec n)]]⟩);generalize aI bT j _=H1 at R |-;simp only[go_sem,R];refine aB (fun E=>by cases E) (fun _=>?_);simp only[go_sem,R];refine PC.use (Ou m n (by omega)) ?_;simp only[go_sem];exact .refl _
 . rw[show szN n=(emp,4)from if_neg u,show szZ (sg m n)=(emp,4)from if_neg (by rw[UE];exact u)]
   refine pcb (fun t=>t == 2) Tryz.func260 ?_;unfold Tryz.f260;simp only[gdS];simp only[go_sem];refine aM fun j F=>?_
   simp only[go_sem];refine aB (fun E=>?_) (fun E=>by cases E);simp only[go_sem];exact .refl _
def CX(s:ByteArray):List AV:=[boo (iA s),str (eD s)]
theorem LN(s:ByteArray):(CX s).length=2:=(rfl)
theorem afA(s:ByteArray):(CX s).getD 0 .any=boo (iA s):=(rfl)
theorem aeV(s:ByteArray):(CX s).getD 1 .any=str (eD s):=(rfl)
theorem V4(s:ByteArray):(CX s).take 2=CX s:=(rfl)
attribute [go_sem] LN afA aeV V4
def C6(l:List ByteArray):Row:=⟨208,2,l.map CX⟩
def Vd(s:ByteArray):Bool:=decide ((eD s).size>4096)
def FL(l:List ByteArray):Int:=if l.any (fun s=> !fB s)=true then 3 else if l.any Vd=true then 4 else 0
def zL(l:List ByteArray):List (List AV):=if FL l=0 then l.map CX else[]
theorem Dk{α:Type}{q:α->Bool}{l:List α}{k:Nat}{c:α}(h:l[k]?=some c)(u:q c=true):l.any q=true:=Xbe.2 ⟨c,Xae h,u⟩
theorem Au{α:Type}{q:α->Bool}{l:List α}(h:∀c∈l,q c=false):l.any q=false:=by
 rw[List.any_eq_false];intro c u;rw[h c u];simp
theorem XT(l:List ByteArray)(hl:l.length<=1048576)(hs:∀s∈l,s.size<=1048576):PC prog 166 [.sl (l.map Go.Aw.D.fJ)] (.tup [.sl (zL l),int (FL l)]):=by
 refine pcb (fun t=>t == 4) Tryz.func166 ?_;unfold Tryz.f166;simp only[gdS];simp only[go_sem];refine aM fun j hj=>?_
 simp only[go_sem];refine⟨fun ρ H=>∃(k j:Nat),k<=l.length/\ρ 12=.sl (l.map Go.Aw.D.fJ)/\ρ 13=int l.length/\ρ 4=.os j/\ρ 14=int k/\H j=some (C6 (l.take k))/\∀s∈l.take k,fB s=true,fun ρ _=>l.length-aV (ρ 14),
   ⟨0,j,Xac _,by simp only[go_sem],by simp only[go_sem,Xaa],by simp only[go_sem],by simp only[go_sem];rfl,aA _ _ _,by simp⟩,?_⟩
 clear hj j;rintro ρ H ⟨k,j,hk,M,O,F,J,T,hz⟩;simp only[go_sem,M,O,F,J];refine aB (fun u=>?_) (fun I=>?_)
 . have u:=ltB u
   obtain⟨s,E⟩:=aN u;have b1:=inB u;simp only[go_sem,M,O,F,J,aE E,b1];refine PC.use (Ap s (hs s (Xae E))) ?_;simp only[go_sem,M,O,F,J];refine aB (fun hb=>?_) (fun hb=>?_)
   . simp only[go_sem]
     have e:FL l=3:=by unfold FL;rw[if_pos (Dk E hb)]
     rw[show zL l=[]from if_neg (by rw[e];decide),e];exact .refl _
   . simp only[go_sem,M,O,F,J]
     refine bE T ⟨rfl,rfl⟩ ⟨rfl,trivial⟩ (by simp only[C6,Xaa,Xal,Xad,List.length_nil];omega) (fun j' ai=>?_);simp only[go_sem,M,O,F,J,aP (show k<=4611686018427387904 by omega)];refine⟨⟨k+1,j',u,rfl,rfl,?_,kK E (by simpa using hb) hz⟩,by simp only[aF];omega⟩;rw[aA];simp only[C6,bQ E,Xam,Xar,Xbc];rfl
 . have I:=geB hk I
   subst I;rw[Xag]at T hz;have hR:l.any (fun s=> !fB s)=false:=Au fun s hs=>by rw[hz s hs];rfl
   have af:((C6 l).es.length:Int)=l.length:=by simp[C6]
   simp only[go_sem,F,T,af];refine⟨fun ρ H=>∃(k:Nat),k<=l.length/\ρ 4=.os j/\ρ 33=.os j/\ρ 34=int l.length/\ρ 35=int k/\H j=some (C6 l)/\∀s∈l.take k,Vd s=false,fun ρ _=>l.length-aV (ρ 35),
     ⟨0,Xac _,by simp only[go_sem,F],by simp only[go_sem],by simp only[go_sem],by simp only[go_sem];rfl,T,by simp⟩,?_⟩
   clear F T M O J;rintro ρ H ⟨k,hk,F,Z,aa,ab,T,ac⟩;simp only[go_sem,F,Z,aa,ab];refine aB (fun u=>?_) (fun I=>?_)
   . have u:=ltB u
     obtain⟨s,E⟩:=aN u;have b1:=inB u;have ah:(C6 l).es.getD k []=CX s:=aE E;have b2:0<=(k:Int)/\(k:Int)<((C6 l).es.length:Nat):=by simp only[C6,Xaa];exact b1
     simp only[go_sem,F,Z,aa,ab,T,b2,ah];have ad:k<(C6 l).es.length:=by simp only[C6,Xaa];exact u
     refine⟨rfl,⟨ad,Xaf 2⟩,?_⟩;refine aM fun i hi=>?_
     simp only[go_sem,F,Z,aa,ab];have ae:j≠i:=aO T hi;refine aJ (aA _ _ _) (by simp[LN]) ?_;generalize hG:aI (aI _ i _) i _=HG;have Ri:HG i=some (⟨208,2,[CX s]⟩:Row):=by rw[<-hG,aA];rfl
     have ag:HG j=some (C6 l):=by rw[<-hG,aD _ _ _ _ ae,aD _ _ _ _ ae];exact T
     clear hG hi T;simp only[go_sem,F,Z,aa,ab,Ri];have hd:decide (((eD s).size:Int)>4096)=Vd s:=by unfold Vd;rw[decide_eq_decide];omega
     rw[hd];refine aB (fun hb=>?_) (fun hb=>?_)
     . simp only[go_sem]
       have e:FL l=4:=by unfold FL;rw[if_neg (by rw[hR];simp),if_pos (Dk E hb)]
       rw[show zL l=[]from if_neg (by rw[e];decide),e];exact .refl _
     . simp only[go_sem,F,Z,aa,ab,aP (show k<=4611686018427387904 by omega)]
       exact⟨⟨k+1,u,rfl,ag,kK E hb ac⟩,by simp only[aF];omega⟩
   . have I:=geB hk I
     subst I;rw[Xag]at ac;simp only[go_sem,F];have e:FL l=0:=by unfold FL;rw[if_neg (by rw[hR];simp),if_neg (by rw[Au ac];simp)]
     rw[show zL l=l.map CX from if_pos e,e];exact .tup _ _ (.cons _ _ _ _ (.row _ _ _ T (ConvE.refl _)) (ConvL.refl _))
end Go.Proofs.YtohmomanmikphaaGreatDoor.Nu
end
section
namespace Go.Proofs.YtohmomanmikphaaGreatDoor.Nu
open Go.Proofs.Tryz(prog)
open Go.Aw Go.Aw.D Go.Proofs Ty Go.Nu
theorem Hy:∀{l r:List UInt8},l.all isD=true->r.all isD=true->l.length=r.length->Lib.compareBytes l r=iK (gI l) (gI r)
 | [],[],_,_,_=>by rw[qT rfl];rfl
 | [],_::_,_,_,h=>by simp at h
 | _::_,[],_,_,h=>by simp at h
 | a::l,b::r,hl,hr,h=>by
   simp only[List.all_cons,Xap]at hl hr;simp only[Xad,Nat.add_right_cancel_iff]at h;have ih:=Hy hl.2 hr.2 h;have T:gI (a::l)=(a.toNat-48)*10^l.length+gI l:=by
     have:=wJ [a] l;simpa[gI]using this
   have O:gI (b::r)=(b.toNat-48)*10^r.length+gI r:=by
     have:=wJ [b] r;simpa[gI]using this
   have h1:=Df hl.2;have h2:=Df hr.2;have da:=oV.1 hl.1;have db:=oV.1 hr.1;rw[Lib.compareBytes,T,O,<-h]at *;have E:a<b↔a.toNat<b.toNat:=UInt8.lt_iff_toNat_lt;have F:b<a↔b.toNat<a.toNat:=UInt8.lt_iff_toNat_lt;split
   . rename_i u
     rw[E]at u;have:(a.toNat-48+1)*10^l.length<=(b.toNat-48)*10^l.length:=Nat.mul_le_mul_right _ (by omega);rw[Nat.add_mul]at this;rw[iP (by omega)]
   . split
     . rename_i u
       rw[F]at u;have:(b.toNat-48+1)*10^l.length<=(a.toNat-48)*10^l.length:=Nat.mul_le_mul_right _ (by omega);rw[Nat.add_mul]at this;rw[iQ (by omega)]
     . rename_i I J
       rw[E]at I;rw[F]at J;have:a.toNat=b.toNat:=by omega
       rw[ih,this];generalize (b.toNat-48)*10^l.length=p;unfold iK;have Z:(((p+gI l:Nat):Int)<((p+gI r:Nat):Int))↔((gI l:Nat):Int)<((gI r:Nat):Int):=by omega
       have M:(((p+gI r:Nat):Int)<((p+gI l:Nat):Int))↔((gI r:Nat):Int)<((gI l:Nat):Int):=by omega
       simp only[Z,M]
theorem EZ(m n:Nat):PC prog 171 [str (dec m),str (dec n)] (int (iK m n)):=by
 have I:=EF m;have F:=EF n;have u:∀{p q:Nat},(Lib.decDigits p).length<(Lib.decDigits q).length->p<q:=fun {p q} h=>by
   have h1:=(qA (n:=p) (k:=(Lib.decDigits p).length) (qL p)).1 (Xaf _);rcases Xaw p q with E|E
   . exact E
   . have:=(qA (n:=q) (k:=(Lib.decDigits p).length) (qL p)).2 (by omega)
     omega
 refine pcd Tryz.func171 ?_;unfold Tryz.f171;simp only[gdS];simp only[go_sem];refine aB (fun h=>?_) (fun h=>?_)
 . have h:(dec m).size≠(dec n).size:=neN h
   simp only[go_sem];refine aB (fun E=>?_) (fun E=>?_)
   . have E:=ltB E
     simp only[go_sem];have:=u (p:=m) (q:=n) (by omega);exact cI (by rw[iP (by omega)])
   . have E:¬(dec m).size<(dec n).size:=by have:=of_decide_eq_false E;omega
     simp only[go_sem];have:=u (p:=n) (q:=m) (by omega);exact cI (by rw[iQ (by omega)])
 . have h:(dec m).size=(dec n).size:=eqN h
   simp only[go_sem];refine PC.use (MD (dec m) (dec n)) ?_;simp only[go_sem];refine cI ?_;rw[lI,lI,Hy (AX m) (AX n) (by omega),DJ,DJ]
theorem Ag(a b:ByteArray)(u:fO a=true)(E:fO b=true):PC prog 171 [str a,str b] (int (iK (eZ a) (eZ b))):=by
 have:=EZ (eZ a) (eZ b)
 rwa [kE u,kE E]at this
theorem BX{s:ByteArray}(h:fB s=true):fO (eD s)=true:=by
 unfold fB at h;simp only[Xap]at h;exact h.1
theorem M0(a b:ByteArray)(ha:a.size<=1048576)(Z:b.size<=1048576):PC prog 102 [str a,str b] (int (Vp a b)):=by
 refine pcd Tryz.func102 ?_;unfold Tryz.f102;simp only[gdS];simp only[go_sem];refine PC.use (Ap a ha) ?_;simp only[go_sem];refine PC.use (Ap b Z) ?_;simp only[go_sem];refine aB (fun h=>?_) (fun h=>?_)
 . simp only[go_sem]
   refine cI ?_;unfold Vp;rw[if_neg];rintro⟨h1,u⟩;rw[h1,u]at h;cases h
 have J:fB a=true/\fB b=true:=by simpa using h
 have M:=BX J.1;have O:=BX J.2;have F:∀{s:ByteArray},fB s=true->iA s=true->0<eZ (eD s):=fun {s} h1 u=>by
   have E:=h1;unfold fB at E;simp only[u,Xbj,Xap,Xbm,pH]at E;rcases Xbp (eZ (eD s))with h0|h0
   . have:=kE E.1
     rw[h0]at this;exact absurd this.symm E.2
   . exact h0
 have hv:Vp a b=iK (iT a) (iT b):=if_pos J;rw[hv];unfold iT;simp only[go_sem];refine aB (fun u=>?_) (fun u=>?_)
 . have u:iA a=true/\iA b=true:=by simpa using u
   simp only[go_sem];refine PC.use (Ag _ _ O M) ?_;simp only[go_sem];refine cI ?_;rw[if_pos u.1,if_pos u.2];unfold iK;have c1:(((eZ (eD b):Nat):Int)<((eZ (eD a):Nat):Int))↔(-((eZ (eD a):Nat):Int)< -((eZ (eD b):Nat):Int)):=by omega
   have T:(((eZ (eD a):Nat):Int)<((eZ (eD b):Nat):Int))↔(-((eZ (eD b):Nat):Int)< -((eZ (eD a):Nat):Int)):=by omega
   simp only[c1,T]
 . simp only[go_sem]
   refine aB (fun E=>?_) (fun E=>?_)
   . have I:iA b=false:=by rw[E]at u;simpa using u
     have:=F J.1 E;simp only[go_sem];refine cI ?_;rw[if_pos E,if_neg (by rw[I];simp),iP (by omega)]
   . simp only[go_sem]
     refine aB (fun I=>?_) (fun I=>?_)
     . have:=F J.2 I
       simp only[go_sem];refine cI ?_;rw[if_neg (by rw[E];simp),if_pos I,iQ (by omega)]
     . simp only[go_sem]
       refine PC.use (Ag _ _ M O) ?_;simp only[go_sem];refine cI ?_;rw[if_neg (by rw[E];simp),if_neg (by rw[I];simp)]
def iS(m:Bool)(n:Nat):List AV:=[boo m,str (dec n)]
theorem Bt(m:Bool)(n:Nat):(iS m n).length=2:=(rfl)
theorem Zd(m:Bool)(n:Nat):(iS m n).getD 0 .any=boo m:=(rfl)
theorem Yr(m:Bool)(n:Nat):(iS m n).getD 1 .any=str (dec n):=(rfl)
theorem Rh(m:Bool)(n:Nat):(iS m n).take 2=iS m n:=(rfl)
attribute [go_sem] Bt Zd Yr Rh
theorem Kk{m n:Nat}(u:m<dB)(E:n<dB):NK (dec m) (dec n)=szN (m+n):=by unfold NK;rw[if_pos (wT u E),cF,cF]
theorem L7{m n:Nat}(u:m<dB)(E:n<dB)(h:n<=m):Nj (dec m) (dec n)=szN (m-n):=by unfold Nj;rw[if_pos (wT u E),cF,cF,if_neg (by omega)]
theorem eJ{m:Nat}(u:m<dB):(dec m).size<=1048576:=by have:=(hJ m).2 u;omega
theorem aaZ(a b:Bool)(m n:Nat)(hm:m<dB)(hn:n<dB):PC prog 223 [.agg (iS a m),.agg (iS b n)] (.tup [str (szZ (sg a m+sg b n)).1,int (szZ (sg a m+sg b n)).2]):=by
 refine pcb (fun t=>t == 2||t == 3) Tryz.func223 ?_;unfold Tryz.f223;simp only[gdS];simp only[go_sem];refine aM fun i hi=>?_
 simp only[go_sem];refine aM fun j hj=>?_
 have F:=aA bT i (some ⟨208,2,[iS a m]⟩);have J:i≠j:=aO F hj;have E:=aA (aI bT i (some ⟨208,2,[iS a m]⟩)) j (some ⟨208,2,[iS b n]⟩);have u:(aI (aI bT i (some ⟨208,2,[iS a m]⟩)) j (some ⟨208,2,[iS b n]⟩)) i=some ⟨208,2,[iS a m]⟩:=by rw[aD _ _ _ _ J];exact F
 generalize aI (aI bT i _) j _=H1 at *;clear F;simp only[go_sem,u,E];refine aB (fun h=>?_) (fun h=>?_)
 . have O:a=b:=by simpa using h
   subst O;simp only[go_sem,u,E];refine PC.use (Ux (dec m) (dec n) (eJ hm) (eJ hn)) ?_;rw[Kk hm hn];simp only[go_sem,u,E];refine PC.use (Ef a (m+n)) ?_;simp only[go_sem];have e:sg a (m+n)=sg a m+sg a n:=by unfold sg;split <;> omega
   rw[e];exact .refl _
 have O:b= !a:=by cases a <;> cases b <;> simp_all
 subst O;simp only[go_sem,u,E];refine PC.use (EZ m n) ?_;simp only[go_sem,u,E];refine bM (fun Z H'=>∃(a' b':Bool) (p q:Nat),p<dB/\q<dB/\q<=p/\sg a' (p-q)=sg a m+sg (!a) n/\Z 2=.op i 0 0/\Z 3=.op j 0 0/\H' i=some (⟨208,2,[iS a' p]⟩:Row)/\H' j=some (⟨208,2,[iS b' q]⟩:Row)) ?_ fun K hK=>aB (fun I=>?_) (fun I=>?_)
 rotate_left
 . have ac : m < n := by
     rcases Xaw m n with h|h
     . exact h
     . exfalso
       have I:=of_decide_eq_true I;unfold iK at I;rw[if_neg (by omega)]at I;split at I <;> omega
   simp only[go_sem,u,E];refine aJ u (by simp[Bt]) ?_;generalize M:aI H1 i _=HP;have F:HP i=some (⟨208,2,[iS (!a) n]⟩:Row):=by rw[<-M,aA];rfl
   have T:HP j=some (⟨208,2,[iS (!a) n]⟩:Row):=by rw[<-M,aD _ _ _ _ (Ne.symm J)];exact E
   clear M;simp only[go_sem,F,T];refine aJ T (by simp[Bt]) ?_;generalize M:aI HP j _=HQ;have S3:HQ j=some (⟨208,2,[iS a m]⟩:Row):=by rw[<-M,aA];rfl
   have S2:HQ i=some (⟨208,2,[iS (!a) n]⟩:Row):=by rw[<-M,aD _ _ _ _ J];exact F
   clear M;simp only[go_sem];refine hK _ _ ⟨!a,a,n,m,hn,hm,by omega,?_,by simp only[go_sem],by simp only[go_sem],S2,S3⟩;unfold sg;cases a <;> simp <;> omega
 . have ab : n <= m := by
     rcases Xaw m n with h|h
     . exact absurd (by rw[iP (by omega)];decide) (of_decide_eq_false I)
     . exact h
   simp only[go_sem];refine hK _ _ ⟨a,!a,m,n,hm,hn,ab,?_,by simp only[go_sem],by simp only[go_sem],u,E⟩;unfold sg;cases a <;> simp <;> omega
 clear u E;rintro ρ H ⟨a',b',p,q,hp,hq,aa,hv,h2,h3,F,E⟩;simp only[go_sem,h2,h3,F,E];refine PC.use (Us (dec p) (dec q) (eJ hp) (eJ hq)) ?_;rw[L7 hp hq aa];simp only[go_sem,h2,h3,F,E];refine PC.use (Ef a' (p-q)) ?_;simp only[go_sem];rw[hv];exact .refl _
theorem LI(a b:ByteArray):FL [a,b]=mV a b:=by
 unfold FL mV Vd;simp only[List.any_cons,List.any_nil,Bool.or_false]
theorem VQ(n:Int):CX (zed n)=iS (decide (n<0)) n.natAbs:=by
 unfold CX iS;rw[zM,mA]
theorem Io(n:Int):sg (decide (n<0)) n.natAbs=n:=by
 unfold sg;by_cases h:n<0
 . simp[h];omega
 . simp[h];omega
theorem IV{m n:Int}(h:mV (zed m) (zed n)=0):zL [zed m,zed n]=[iS (decide (m<0)) m.natAbs,iS (decide (n<0)) n.natAbs]:=by
 unfold zL;rw[LI,if_pos h];simp only[Xar,Xbc,VQ]
theorem AN(a b:ByteArray)(u:a.size<=1048576)(E:b.size<=1048576):PC prog 166 [.sl [[str a],[str b]]] (.tup [.sl (zL [a,b]),int (mV a b)]):=by
 have:=XT [a,b] (by simp) (by simp[u,E])
 rwa [LI]at this
theorem adF(a b:ByteArray)(I:a.size<=1048576)(E:b.size<=1048576):PC prog 222 [str a,str b] (.tup [str (Sa a b).1,int (Sa a b).2]):=by
 refine pcd Tryz.func222 ?_;unfold Tryz.f222;simp only[gdS];simp only[go_sem];refine PC.use (AN a b I E) ?_;simp only[go_sem];refine aB (fun h=>?_) (fun h=>?_)
 . have h:mV a b≠0:=by simpa using h
   simp only[go_sem];rw[show Sa a b=(emp,mV a b)from if_neg h];exact .refl _
 have h:mV a b=0:=by simpa using h
 have e:Sa a b=szZ (iT a+iT b):=if_pos h;rw[e];obtain⟨m,n,rfl,rfl,F,u⟩:=xV h;rw[cY,cY,IV h];simp only[go_sem];refine dA (by rfl) (by kernel_rfl) ?_;simp only[go_sem,Xad,List.length_nil]
 repeat (refine⟨by first|decide|omega,?_⟩)
 refine⟨_,(aaZ _ _ _ _ F u).q rfl,?_⟩;simp only[go_sem];rw[Io,Io];exact .refl _
theorem acJ(a b:ByteArray)(J:a.size<=1048576)(F:b.size<=1048576):PC prog 164 [str a,str b] (.tup [str (Te a b).1,int (Te a b).2]):=by
 refine pcd Tryz.func164 ?_;unfold Tryz.f164;simp only[gdS];simp only[go_sem];refine PC.use (AN a b J F) ?_;simp only[go_sem];refine aB (fun h=>?_) (fun h=>?_)
 . have h:mV a b≠0:=by simpa using h
   simp only[go_sem];rw[show Te a b=(emp,mV a b)from if_neg h];exact .refl _
 have h:mV a b=0:=by simpa using h
 have e:Te a b=szZ (iT a-iT b):=if_pos h;rw[e];obtain⟨m,n,rfl,rfl,I,E⟩:=xV h;rw[cY,cY,IV h];simp only[go_sem];refine dA (by rfl) (by kernel_rfl) ?_;simp only[go_sem,Xad,List.length_nil]
 repeat (refine⟨by first|decide|omega,?_⟩)
 have u:sg (!decide (n<0)) n.natAbs= -n:=by
   unfold sg;by_cases h:n<0
   . simp[h];omega
   . simp[h];omega
 refine⟨_,(aaZ _ (!decide (n<0)) _ _ I E).q rfl,?_⟩;simp only[go_sem];rw[Io,u,Int.sub_eq_add_neg];exact .refl _
theorem Vi{m n:Nat}(u:m<dB)(E:n<dB):OK (dec m) (dec n)=szN (m*n):=by unfold OK;rw[if_pos (wT u E),cF,cF]
theorem adD(a b:ByteArray)(M:a.size<=1048576)(J:b.size<=1048576):PC prog 259 [str a,str b] (.tup [str (xD a b).1,int (xD a b).2]):=by
 refine pcd Tryz.func259 ?_;unfold Tryz.f259;simp only[gdS];simp only[go_sem];refine PC.use (AN a b M J) ?_;simp only[go_sem];refine aB (fun h=>?_) (fun h=>?_)
 . have h:mV a b≠0:=by simpa using h
   simp only[go_sem];rw[show xD a b=(emp,mV a b)from if_neg h];exact .refl _
 have h:mV a b=0:=by simpa using h
 have e:xD a b=szZ (iT a*iT b):=if_pos h;rw[e];obtain⟨m,n,rfl,rfl,F,E⟩:=xV h;rw[cY,cY,IV h];simp only[go_sem];refine dA (by rfl) (by kernel_rfl) ?_;simp only[go_sem,Xad,List.length_nil]
 repeat (refine⟨by first|decide|omega,?_⟩)
 refine⟨_,(afI (dec m.natAbs) (dec n.natAbs) (eJ F) (eJ E)).q rfl,?_⟩;rw[Vi F E];simp only[go_sem];refine dA (by rfl) (by kernel_rfl) ?_;simp only[go_sem,Xad,List.length_nil]
 repeat (refine⟨by first|decide|omega,?_⟩)
 refine⟨_,(Ef _ (m.natAbs*n.natAbs)).q rfl,?_⟩;simp only[go_sem];have I:sg (!(decide (m<0) == decide (n<0))) (m.natAbs*n.natAbs)=m*n:=by
   unfold sg;rw[Int.natCast_mul];by_cases h1:m<0 <;> by_cases u:n<0
   . simp only[h1,u,decide_true,beq_self_eq_true,Xcd,Xay,if_false]
     rw[Xbq (by omega),Xbq (by omega),Int.neg_mul_neg]
   . simp only[h1,u,decide_true,decide_false]
     rw[if_pos (show(!(true == false))=true from rfl),Xbq (by omega),Xbr (by omega),Int.neg_mul,Int.neg_neg]
   . simp only[h1,u,decide_true,decide_false]
     rw[if_pos (show(!(false == true))=true from rfl),Xbq (a:=n) (by omega),Xbr (by omega),Int.mul_neg,Int.neg_neg]
   . simp only[h1,u,decide_false,beq_self_eq_true,Xcd,Xay,if_false]
     rw[Xbr (by omega),Xbr (by omega)]
 rw[I];exact .refl _
theorem zI{P:Program}{C:kH}{PC:FuncId->List AV->aG->AV->Prop}{mt:Nat->Bool}{ops:Array Oper}{K:Env->aG->Prop}{m:Nat}{ρ:Env}{H:aG}(J:Env->aG->Prop)(h1:∀ρ H,J ρ H->K ρ H)
 (u:∀K':Env->aG->Prop,(∀ρ H,J ρ H->K' ρ H)->qW P C PC mt ops K' m ρ H):qW P C PC mt ops K m ρ H:=u K h1
abbrev BO(A:List AV):Row:=⟨208,2,[A]⟩
abbrev zN:Row:=BO [.v (.bool false),.v (.string ByteArray.empty)]
theorem Ad{A:List AV}(h:A.length=2):(⟨208,2,[List.take 2 A++List.drop (List.take 2 A).length [AV.v (.bool false),AV.v (.string ByteArray.empty)]]⟩:Row)=BO A:=by
 rw[Xan (by omega),h];simp
theorem Lh{m n:Int}(I:n≠0)(E:decide (m<0)≠decide (n<0))(O:m.natAbs%n.natAbs≠0):
   m.fdiv n= -((m.natAbs/n.natAbs+1:Nat):Int)/\m.fmod n=sg (decide (n<0)) (n.natAbs-m.natAbs%n.natAbs):=by
 have e:=Nat.mod_add_div m.natAbs n.natAbs;have M:=Nat.mod_lt m.natAbs (show 0<n.natAbs by omega);generalize m.natAbs/n.natAbs=q at *;generalize m.natAbs%n.natAbs=r at *;have F:(r:Int)+(n.natAbs:Int)*(q:Int)=(m.natAbs:Int):=by rw[<-Int.natCast_mul,<-Int.natCast_add,e]
 unfold sg;rcases Int.lt_or_gt_of_ne I with h|h
 . have J:¬m<0:=fun u=>E (by simp[h,u])
   rw[Xbq (a:=n) (by omega),Xbr (a:=m) (by omega)]at F;refine(Int.fdiv_fmod_unique' h).2 ⟨?_,?_,?_⟩
   . rw[if_pos (by simpa using h)]
     have:(n* -((q+1:Nat):Int))= -n*q-n:=by grind
     rw[this];omega
   . rw[if_pos (by simpa using h)];omega
   . rw[if_pos (by simpa using h)];omega
 . have J : m < 0 := by
     rcases Int.lt_or_le m 0 with u|u
     . exact u
     . exact absurd (by simp;omega) E
   rw[Xbr (a:=n) (by omega),Xbq (a:=m) (by omega)]at F;refine(Int.fdiv_fmod_unique h).2 ⟨?_,?_,?_⟩
   . rw[if_neg (by simp;omega)]
     have:(n* -((q+1:Nat):Int))= -(n*q)-n:=by grind
     rw[this];omega
   . rw[if_neg (by simp;omega)];omega
   . rw[if_neg (by simp;omega)];omega
theorem Rk{m n:Int}(J:n≠0)(h0:decide (m<0)=decide (n<0)\/m.natAbs%n.natAbs=0):
   m.fdiv n=sg (!(decide (m<0) == decide (n<0))) (m.natAbs/n.natAbs)/\m.fmod n=sg (decide (n<0)) (m.natAbs%n.natAbs):=by
 have e:=Nat.mod_add_div m.natAbs n.natAbs;have M:=Nat.mod_lt m.natAbs (show 0<n.natAbs by omega);generalize m.natAbs/n.natAbs=q at *;generalize m.natAbs%n.natAbs=r at *;have F:(r:Int)+(n.natAbs:Int)*(q:Int)=(m.natAbs:Int):=by rw[<-Int.natCast_mul,<-Int.natCast_add,e]
 unfold sg;rcases Int.lt_or_gt_of_ne J with h|h
 . rw[Xbq (a:=n) (by omega)]at F
   refine(Int.fdiv_fmod_unique' h).2 ?_;by_cases E:m<0
   . rw[Xbq (a:=m) (by omega)]at F
     simp only[h,E,decide_true,beq_self_eq_true,Xcd,Xay,if_false,if_true];have:n*(q:Int)= -(-n*q):=by grind
     exact⟨by rw[this];omega,by omega,by omega⟩
   . rw[Xbr (a:=m) (by omega)]at F
     have I:r=0:=by
       rcases h0 with h0|h0
       . simp[h,E]at h0
       . exact h0
     simp only[h,E,decide_true,decide_false,show(!(false == true))=true from rfl,if_true];have:n* -(q:Int)= -n*q:=by grind
     exact⟨by rw[this];omega,by omega,by omega⟩
 . rw[Xbr (a:=n) (by omega)]at F
   refine(Int.fdiv_fmod_unique h).2 ?_;have u:¬n<0:=by omega
   by_cases E:m<0
   . rw[Xbq (a:=m) (by omega)]at F
     have I:r=0:=by
       rcases h0 with h0|h0
       . simp[u,E]at h0
       . exact h0
     simp only[u,E,decide_true,decide_false,show(!(true == false))=true from rfl,if_true,Xay,if_false];have:n* -(q:Int)= -(n*q):=by grind
     exact⟨by rw[this];omega,by omega,by omega⟩
   . rw[Xbr (a:=m) (by omega)]at F
     simp only[u,E,decide_false,beq_self_eq_true,Xcd,Xay,if_false];exact⟨by omega,by omega,by omega⟩
theorem WB{m n:Nat}(u:m<dB)(E:n<dB)(h:n≠0):Js (dec m) (dec n)=(dec (m/n),dec (m%n),0):=by unfold Js;rw[if_pos (wT u E),cF,cF,if_neg h]
theorem Il(a b:ByteArray)(ha:a.size<=1048576)(E:b.size<=1048576):PC prog 101 [str a,str b] (.tup [str (C0 a b).1,str (C0 a b).2.1,int (C0 a b).2.2]):=by
 refine pcd Tryz.func101 ?_;unfold Tryz.f101;simp only[gdS];simp only[go_sem];refine PC.use (AN a b ha E) ?_;simp only[go_sem];refine aB (fun h=>?_) (fun h=>?_)
 . have h:mV a b≠0:=by simpa using h
   simp only[go_sem];rw[show C0 a b=(emp,emp,mV a b)from if_neg h];exact .refl _
 have h:mV a b=0:=by simpa using h
 obtain⟨m,n,rfl,rfl,hm,hn⟩:=xV h;have e:C0 (zed m) (zed n)=if n=0 then(emp,emp,10)else(zed (m.fdiv n),zed (m.fmod n),0):=by unfold C0;rw[if_pos h,cY,cY]
 rw[e,IV h];simp only[go_sem];obtain⟨A,hA⟩:∃A,iS (decide (m<0)) m.natAbs=A:=⟨_,rfl⟩;obtain⟨B,hB⟩:∃B,iS (decide (n<0)) n.natAbs=B:=⟨_,rfl⟩;have Z:A.length=2:=by rw[<-hA];rfl
 have aa:B.length=2:=by rw[<-hB];rfl
 refine zI (fun M H'=>∃i j,M 9=.op i 0 0/\M 10=.op j 0 0/\H' i=some (BO A)/\H' j=some (BO B)) ?_ fun K hK=>?_
 rotate_left
 . refine uM [] (.q 0 (.q 1 (.q 2 (.q 3 (.q 4 (.q 5 (.a2 6 (.a1 7 (.a1 8 (.a1 9 .nil))) 7 (.a1 6 (.a1 8 (.a1 9 .nil)))))))))) (by simp) (by kernel_rfl) fun Hp Hr _ hq _ _=>?_
   simp only[go_sem,Xad,List.length_nil,hA,hB]
   repeat (refine⟨by first|decide|omega,?_⟩)
   refine lA ?_ ?_
   . simp only[go_sem]
     refine aM fun i hi=>?_
     simp only[go_sem];refine aM fun j hj=>?_
     have R:=aA Hr i (some (zN));have O:=aO R hj;have F:=jG (r':=zN) R hj;have I:=aA (aI Hr i (some (zN))) j (some (zN));simp only[go_sem];refine aJ (r:=zN) F (by simp[Z]) ?_;simp only[go_sem];refine aJ (r:=zN) (by rw[aD _ _ _ _ O.symm];exact I) (by simp[aa]) ?_;simp only[go_sem];refine eR fun _ Hm _ hm=>hK _ _ ⟨i,j,by simp only[go_sem],by simp only[go_sem],?_,?_⟩
     . rw[hm i (by simp),aD _ _ _ _ O,aA];exact congrArg some (Ad Z)
     . rw[hm j (by simp),aA];exact congrArg some (Ad aa)
   . simp only[go_sem]
     refine aM fun j hj=>?_
     simp only[go_sem];refine aM fun i hi=>?_
     have R:=aA Hr j (some (zN));have O:=(aO R hi).symm;have I:=jG (r':=zN) R hi;have F:=aA (aI Hr j (some (zN))) i (some (zN));simp only[go_sem];refine aJ (r:=zN) F (by simp[Z]) ?_;simp only[go_sem];refine aJ (r:=zN) (by rw[aD _ _ _ _ O.symm];exact I) (by simp[aa]) ?_;simp only[go_sem];refine eR fun _ Hm _ hm=>hK _ _ ⟨i,j,by simp only[go_sem],by simp only[go_sem],?_,?_⟩
     . rw[hm i (by simp),aD _ _ _ _ O,aA];exact congrArg some (Ad Z)
     . rw[hm j (by simp),aA];exact congrArg some (Ad aa)
 rintro ρ H ⟨i,j,J,u,F,I⟩;subst hA hB;simp only[go_sem,J,u,F,I,tS];refine aB (fun ac=>?_) (fun ac=>?_)
 . have h0 : n = 0 := by
     have:=uU.1 (rC.1 ac);omega
   simp only[go_sem];rw[if_pos h0];exact .refl _
 have h0:n≠0:=fun e=>by
   subst e;exact pH.1 ac rfl
 have ah:n.natAbs≠0:=by omega
 rw[if_neg h0];simp only[go_sem,J,u,F,I];refine PC.use (adS (dec m.natAbs) (dec n.natAbs) (eJ hm) (eJ hn)) ?_;rw[WB hm hn ah];simp only[go_sem,J,u,F,I];refine aB (fun E=>by cases E) (fun _=>?_);simp only[go_sem,J,u,F,I,tS];have aj:=Nat.mod_add_div m.natAbs n.natAbs;have ai:=Nat.mod_lt m.natAbs (show 0<n.natAbs by omega);refine bM (fun M H'=>∃q r:Nat,M 9=.op i 0 0/\M 10=.op j 0 0/\H' i=some (BO (iS (decide (m<0)) m.natAbs))/\H' j=some (BO (iS (decide (n<0)) n.natAbs))/\M 11=str (dec q)/\M 12=str (dec r)/\q<dB/\r<dB/\sg (!(decide (m<0) == decide (n<0))) q=m.fdiv n/\sg (decide (n<0)) r=m.fmod n) ?_ fun K hK=>aB (fun E=>?_) (fun E=>?_)
 rotate_left
 . have E : decide (m < 0) ≠ decide (n < 0) /\ m.natAbs % n.natAbs ≠ 0 := by
     simp only[Xap,Xbm,beq_eq_false_iff_ne,ne_eq,pH]at E;exact⟨E.1,fun e=>E.2 (by rw[e])⟩
   obtain⟨f1,f2⟩:=Lh h0 E.1 E.2;have ab:m.natAbs/n.natAbs+1<dB:=by
     have h2:2<=n.natAbs:=by omega
     have h3:2*(m.natAbs/n.natAbs)<=n.natAbs*(m.natAbs/n.natAbs):=Nat.mul_le_mul_right _ h2;omega
   have T:m.natAbs/n.natAbs<dB:=by omega
   have af:(1:Nat)<dB:=Nat.lt_of_le_of_lt (Nat.le_add_left 1 _) ab;have ad:m.natAbs%n.natAbs<dB:=by omega
   generalize hQ:m.natAbs/n.natAbs=q at *;generalize hR:m.natAbs%n.natAbs=r at *;simp only[go_sem,J,u];rw[Dq];refine PC.use (Ux (dec q) (dec 1) (eJ T) (eJ af)) ?_;rw[Kk T af,Bw ab];simp only[go_sem,J,u,F,I];refine aB (fun E=>by cases E) (fun _=>?_);simp only[go_sem,J,u,F,I];refine PC.use (Us (dec n.natAbs) (dec r) (eJ hn) (eJ ad)) ?_;rw[L7 hn ad (by omega),Bw (show n.natAbs-r<dB by omega)];simp only[go_sem,J,u,F,I];refine aB (fun E=>by cases E) (fun _=>?_);simp only[go_sem,J,u];refine hK _ _ ⟨q+1,n.natAbs-r,by simp only[go_sem,J],by simp only[go_sem,u],F,I,by simp only[go_sem],by simp only[go_sem],ab,by omega,?_,f2.symm⟩;rw[f1];unfold sg;rw[if_pos (by simpa using E.1)]
 . have E : decide (m < 0) = decide (n < 0) \/ m.natAbs % n.natAbs = 0 := by
     by_cases h1:decide (m<0)=decide (n<0)
     . exact .inl h1
     . refine .inr ?_
       have h2:(!(decide (m<0) == decide (n<0)))=true:=by simpa using h1
       rw[h2,Xbj,Xbv]at E;exact uU.1 (rC.1 E)
   obtain⟨f1,f2⟩:=Rk h0 E;have T:m.natAbs/n.natAbs<dB:=Nat.lt_of_le_of_lt (Nat.div_le_self _ _) hm;simp only[go_sem,J,u];exact hK _ _ ⟨_,_,by simp only[go_sem,J],by simp only[go_sem,u],F,I,by simp only[go_sem],by simp only[go_sem],T,by omega,f1.symm,f2.symm⟩
 clear J u F I;rintro ρ H ⟨q,r,J,u,F,I,ag,ae,hq,hr,f1,f2⟩;simp only[go_sem];refine dA (by rfl) (by kernel_rfl) ?_;simp only[go_sem,J,u,ag,ae,F,I];refine⟨_,(Ou _ q (eJ hq)).q rfl,?_⟩;simp only[go_sem,J,u,ag,ae,F,I];refine⟨_,(Ou _ r (eJ hr)).q rfl,?_⟩;simp only[go_sem,f1,f2];exact .refl _
end Go.Proofs.YtohmomanmikphaaGreatDoor.Nu
end
section
namespace Go.Proofs.YtohmomanmikphaaGreatDoor.Nu
open Go.Proofs.Tryz(prog)
open Go.Aw Go.Aw.D Go.Proofs Ty Go.Nu
open Go.RowKit (Below)
theorem Bj:∀l:List UInt8,Lib.indexByte l 47=if l.any (· == dT)=true then((l.takeWhile (· != dT)).length:Int)else -1
 | []=>rfl
 | c::l=>by
   have ih:=Bj l;unfold Lib.indexByte;by_cases h:c=dT
   . subst h;rfl
   . have h1:(c == (47:UInt8))=false:=by simpa[dT]using h
     have E:(c == dT)=false:=by simpa using h
     have u:(c != dT)=true:=by simpa using h
     rw[h1,ih,List.any_cons,E,List.takeWhile_cons,u];simp only[Xay,if_false,Bool.false_or,if_true];split
     . rw[if_neg (by simp)]
       simp
     . rfl
theorem Dc{α:Type}(p:α->Bool):∀l:List α,l.take (l.takeWhile p).length=l.takeWhile p
 | []=>rfl
 | a::l=>by
   rw[List.takeWhile_cons];split
   . rw[Xad,List.take_succ_cons,Dc p l]
   . rfl
theorem QG{α:Type}(p:α->Bool):∀l:List α,l.drop ((l.takeWhile p).length+1)=(l.dropWhile p).drop 1
 | []=>rfl
 | a::l=>by
   rw[List.takeWhile_cons,List.dropWhile_cons];split
   . rw[Xad,List.drop_succ_cons,QG p l]
   . rfl
theorem ahZ{l:List UInt8}(h:l.any (· == dT)=true):(l.takeWhile (· != dT)).length<l.length:=by
 rcases Xaw (l.takeWhile (· != dT)).length l.length with h1|h1
 . exact h1
 . exfalso
   have E:=Dc (· != dT) l;rw[Xan h1]at E;obtain⟨c,F,u⟩:=Xbe.1 h;rw[E]at F;have:=BU F;simp at this u;exact this u
def UL(s:ByteArray):Int:=if jZ s=true then(((bl s).takeWhile (· != dT)).length:Int)else -1
theorem TP(s:ByteArray):PC prog 233 [str s,str ⟨#[47]⟩] (int (UL s)):=by
 refine PC.lib (a:=[.string s,.string ⟨#[47]⟩]) (v:=.int .i64 (UL s)) (fun S w=>rfl) fun w _=>(Tryz.stringslite_Index_one s 47 w).mono fun e w' ⟨E,u⟩=>?_
 rw[u];exact⟨E.trans (by rw[show s.data.toList=bl s from rfl,Bj];rfl),Below.refl _ _⟩
theorem J2(s:ByteArray):PC prog 109 [str s,str ⟨#[47]⟩] (boo (jZ s)):=by
 refine PC.lib (a:=[.string s,.string ⟨#[47]⟩]) (v:=.bool (jZ s)) (fun S w=>rfl) fun w _=>(Tryz.strings_Contains_one s 47 w).mono fun e w' ⟨E,u⟩=>?_
 rw[u];refine⟨E.trans ?_,Below.refl _ _⟩;rw[show s.data.toList=bl s from rfl,Bj];unfold jZ;cases(bl s).any (· == dT) <;> simp
def Jd(s:ByteArray):ByteArray:=⟨(((bl s).dropWhile (· != dT)).drop 1).toArray⟩
theorem Ut(s:ByteArray)(h:s.size<=1048576):PC prog 183 [str s,str ⟨#[47]⟩] (.tup (if jZ s=true then[str (iU s),str (Jd s),boo true]else[str s,str emp,boo false])):=by
 refine pcd Tryz.func183 ?_;unfold Tryz.f183;simp only[gdS];simp only[go_sem];refine PC.use (TP s) ?_;simp only[go_sem];have J:=fE s;refine aB (fun u=>?_) (fun u=>?_)
 . have E : jZ s = true := by
     have u:=of_decide_eq_true u;unfold UL at u;split at u
     . assumption
     . omega
   have O:=ahZ E;rw[if_pos E,show UL s=(((bl s).takeWhile (· != dT)).length:Int)from if_pos E];simp only[go_sem];refine dA (by rfl) (by kernel_rfl) ?_;simp only[go_sem];have F:s.extract 0 ((bl s).takeWhile (· != dT)).length=iU s:=kV (by rw[iI,Xbi,Dc];exact(iW _).symm);have M:s.extract (((bl s).takeWhile (· != dT)).length+1) s.size=Jd s:=kV (by rw[iI,<-J,Xag,QG];exact(iW _).symm);refine⟨⟨by omega,by omega⟩,?_⟩;have I:IntKind.i64.wrap ((((bl s).takeWhile (· != dT)).length:Int)+((#[47]:Array UInt8).size:Nat))=((((bl s).takeWhile (· != dT)).length+1:Nat):Int):=aP (by omega);simp only[I,Xbf,F,M];refine⟨⟨by omega,by omega⟩,?_⟩;exact .refl _
 . have E : ¬ jZ s = true := fun E => by
     have u:=of_decide_eq_false u;unfold UL at u;rw[if_pos E]at u;omega
   rw[if_neg E];simp only[go_sem];exact .refl _
theorem UM{s:ByteArray}(h:jZ s=false):iU s=s:=by
 refine kV ?_;unfold iU;rw[iW];refine tT fun c u=>?_
 unfold jZ at h;rw[List.any_eq_false]at h;have:=h c u;simpa using this
theorem aqT(s:ByteArray)(h:s.size<=1048576):PC prog 113 [str s,str ⟨#[47]⟩] (.tup (if jZ s=true then[str (iU s),str (Jd s),boo true]else[str s,str emp,boo false])):=by
 by_cases u:jZ s=true
 . have:=Ut s h
   rw[if_pos u]at this |-;refine pcd Tryz.func113 ?_;unfold Tryz.f113;simp only[gdS];simp only[go_sem];refine PC.use this ?_;simp only[go_sem];exact .refl _
 . have:=Ut s h
   rw[if_neg u]at this |-;refine pcd Tryz.func113 ?_;unfold Tryz.f113;simp only[gdS];simp only[go_sem];refine PC.use this ?_;simp only[go_sem];exact .refl _
theorem Dd(s:ByteArray)(h:s.size<=1048576):PC prog 64 [str s] (.tup [str (iU s),str (iB s)]):=by
 have E:=aqT s h;by_cases u:jZ s=true
 . rw[if_pos u]at E
   refine pcd Tryz.func64 ?_;unfold Tryz.f64;simp only[gdS];simp only[go_sem];refine PC.use E ?_;simp only[go_sem];refine aB (fun F=>by cases F) (fun _=>?_);simp only[go_sem];rw[show iB s=Jd s from if_pos u];exact .refl _
 . rw[if_neg u]at E
   refine pcd Tryz.func64 ?_;unfold Tryz.f64;simp only[gdS];simp only[go_sem];refine PC.use E ?_;simp only[go_sem];refine aB (fun _=>?_) (fun F=>by cases F);simp only[go_sem];rw[show iB s=dec 1 from if_neg u,UM (by simpa using u),<-Dq];exact .refl _
theorem LD(s:ByteArray):PC prog 108 [str s] (int (eD s).size):=by
 refine pcd Tryz.func108 ?_;unfold Tryz.f108;simp only[gdS];simp only[go_sem];refine PC.use (xC s) ?_;simp only[go_sem];exact .refl _
theorem FZ(s:ByteArray):(iU s).size<=s.size:=by
 rw[<-fE,<-fE,show bl (iU s)=(bl s).takeWhile (· != dT)from iW _,<-Dc];simp;omega
theorem SQ(s:ByteArray):(iB s).size<=max s.size 1:=by
 unfold iB;split
 . rw[<-fE,<-fE,iW,List.length_drop]
   have:((bl s).dropWhile (· != dT)).length<=(bl s).length:=(List.dropWhile_suffix _).length_le;omega
 . rw[<-Dq];exact Nat.le_max_right _ _
theorem Of:fO (dec 1)=true:=pU 1
theorem DW{s:ByteArray}(h:fO s=true):eD s=s:=by rw[<-kE h,Ma]
theorem SO{s:ByteArray}(h:jZ s=false):iB s=dec 1:=if_neg (by rw[h];simp)
theorem NT{s:ByteArray}(u:(!fB (iU s)||decide (((eD (iU s)).size:Int)>4096)||decide (((eD (iB s)).size:Int)>4096))=true):cG s=false:=by
 unfold cG;rw[Bool.eq_false_iff];simp only[ne_eq,Xap,decide_eq_true_eq];rintro⟨⟨⟨⟨h1,E⟩,F⟩,I⟩,_⟩;rw[h1,DW E]at u;simp only[Xcd,Bool.false_or,Xbl,decide_eq_true_eq]at u;omega
theorem B7{s:ByteArray}(F:(!fB (iU s)||decide (((eD (iU s)).size:Int)>4096)||decide (((eD (iB s)).size:Int)>4096))=false)(I:fO (iB s)=true):
   (fB (iU s)&&fO (iB s)&&decide ((eD (iU s)).size<=4096)&&decide ((iB s).size<=4096))=true/\fB (iU s)=true/\(eD (iU s)).size<=4096/\(iB s).size<=4096:=by
 simp only[Xak,Xbv,decide_eq_false_iff_not]at F;rw[DW I]at F;obtain⟨⟨h1,E⟩,u⟩:=F;have E:(eD (iU s)).size<=4096:=by omega
 have u:(iB s).size<=4096:=by omega
 refine⟨?_,h1,E,u⟩;rw[h1,I];simp[E,u]
theorem xB(s:ByteArray)(h:s.size<=1048576):PC prog 63 [str s] (boo (cG s)):=by
 have hn:=FZ s;have hd:=SQ s;have h1:(1:Nat)<=1048576:=by omega
 have aa:=H9 (iU s);have T:=H9 (iB s);refine pcd Tryz.func63 ?_;unfold Tryz.f63;simp only[gdS];simp only[go_sem];refine PC.use (Dd s h) ?_;simp only[go_sem];refine PC.use (Va (iU s) (by omega)) ?_;simp only[go_sem];refine⟨_,fun _=>(LD (iU s)).q rfl,?_⟩;simp only[go_sem];refine⟨_,fun _=>(LD (iB s)).q rfl,?_⟩;simp only[go_sem];refine aB (fun F=>?_) (fun F=>?_)
 . simp only[go_sem]
   exact cB (NT F).symm
 simp only[go_sem];refine PC.use (J2 s) ?_;simp only[go_sem];refine aB (fun I=>?_) (fun I=>?_)
 . simp only[go_sem]
   refine cB ?_;have h0:jZ s=false:=by simpa using I
   have E:fO (iB s)=true:=by rw[SO h0];exact Of
   unfold cG;rw[(B7 F E).1,h0];rfl
 have h0:jZ s=true:=by simpa using I
 simp only[go_sem];refine PC.use (A8 (iB s) (by omega)) ?_;simp only[go_sem,tS,Pm];refine aB (fun u=>?_) (fun u=>?_)
 . simp only[go_sem]
   refine cB ?_;unfold cG;rw[h0];simp only[Xbl,Xbm]at u;rcases u with((u|u)|u)|u <;> simp[u]
 simp only[Xak,Xbv]at u;obtain⟨⟨⟨E,J⟩,h4⟩,h5⟩:=u;obtain⟨f1,Z,f3,M⟩:=B7 F E;simp only[go_sem];refine PC.use (xC (iU s)) ?_;simp only[go_sem];refine PC.use (U4 (eD (iU s)) (iB s) (by omega) (by omega)) ?_;simp only[go_sem,Pm];refine cB ?_;have fd:=BX Z;have v0:eZ (iB s)≠0:=fun e=>pH.1 J (by rw[<-kE E,e])
 have O:eZ (iB s)<dB:=(zD E).1 M;have e:IZ (eD (iU s)) (iB s)=(dec (Nat.gcd (eZ (eD (iU s))) (eZ (iB s))),0):=by
   unfold IZ;rw[if_pos (Ii fd E f3 M),Bw (Nat.lt_of_le_of_lt (Nat.gcd_le_right _ (by omega)) O)]
 have ev:(iT (iU s)).natAbs=eZ (eD (iU s)):=by unfold iT;split <;> omega
 rw[e];unfold cG;rw[f1,h0,J,h4,h5,ev];simp only[beq_self_eq_true,Xbj,Xcd,Bool.not_false,Bool.false_or];rw[Xau,rC,uU,beq_iff_eq]
theorem Am(n:Int)(h0: -9223372036854775808<=n)(h1:n<=9223372036854775807):PC prog 99 [int n] (str (zed n)):=by
 refine pcd Tryz.func99 ?_;unfold Tryz.f99;simp only[gdS];simp only[go_sem];refine PC.use (anT n h0 h1) ?_;simp only[go_sem];exact .refl _
theorem Zv(s:ByteArray)(h:s.size<=1048576):PC prog 33 [str s] (int (FP s)):=by
 have J:=FZ s;refine pcd Tryz.func33 ?_;unfold Tryz.f33;simp only[gdS];simp only[go_sem];refine PC.use (xB s h) ?_;simp only[go_sem];refine aB (fun u=>?_) (fun u=>?_)
 . simp only[go_sem]
   exact cI (by unfold FP;rw[if_neg (by simpa using u)])
 . have E:cG s=true:=by simpa using u
   simp only[go_sem];refine PC.use (Dd s h) ?_;simp only[go_sem];refine PC.use (X5 (iU s) (by omega)) ?_;simp only[go_sem];refine cI ?_;obtain⟨x,rfl,I,F,_⟩:=iX E;unfold FP KH;rw[if_pos E,F,if_pos (nR _),cY,nH]
def HW(a b:ByteArray):List AV:=if(cG a&&cG b)=true then[str (iU a),str (iB a),str (iU b),str (iB b),int 0]else[str emp,str emp,str emp,str emp,int 3]
theorem N9(a b:ByteArray)(E:a.size<=1048576)(F:b.size<=1048576):PC prog 100 [str a,str b] (.tup (HW a b)):=by
 refine pcd Tryz.func100 ?_;unfold Tryz.f100;simp only[gdS];simp only[go_sem];refine PC.use (xB a E) ?_;simp only[go_sem];refine⟨_,fun _=>(xB b F).q rfl,?_⟩;simp only[go_sem];refine aB (fun u=>?_) (fun u=>?_)
 . simp only[go_sem]
   rw[show HW a b=[str emp,str emp,str emp,str emp,int 3]from if_neg (by rw[Bool.not_eq_true,<-Xbm,Bool.not_and];exact u)];exact .refl _
 . simp only[go_sem]
   refine PC.use (Dd a E) ?_;simp only[go_sem];refine PC.use (Dd b F) ?_;simp only[go_sem];rw[show HW a b=_ from if_pos (by rw[<-Xbv,Bool.not_and];exact u)];exact .refl _
theorem Uh(n:Int)(d:Nat)(M:d≠0)(I:n.natAbs<dB)(u:d<dB):PC prog 221 [str (zed n),str (dec d)] (.tup [str (tO (mkRat n d)),int 0]):=by
 have F:=Rl (n:=n) M u;have Z:=Ya (n:=n) M;have O:∀{m:Int},m.natAbs<dB->(zed m).size<=1048576:=fun {m} hm=>by
   have:=(sU m).2 hm;unfold eD at this;split at this
   . rw[<-fE,iW,List.length_drop]at this
     rw[<-fE];omega
   . omega
 have J:=ES M I u;have T:C0 (zed n) (dec (Nat.gcd n.natAbs d))=(zed (mkRat n d).num,zed (n.fmod (Nat.gcd n.natAbs d:Nat)),0):=by
   unfold C0;rw[<-fD,if_pos (tA I (by rw[Xbh];exact F)),cY,cY,if_neg (by omega),ZS M]
 have ed:C0 (dec d) (dec (Nat.gcd n.natAbs d))=(dec (mkRat n d).den,zed ((d:Int).fmod (Nat.gcd n.natAbs d:Nat)),0):=by
   unfold C0;rw[<-fD,<-fD,if_pos (tA (by rw[Xbh];exact u) (by rw[Xbh];exact F)),cY,cY,if_neg (by omega),ZQ M,fD]
 refine pcd Tryz.func221 ?_;unfold Tryz.f221;simp only[gdS];simp only[go_sem];refine PC.use (xC (zed n)) ?_;rw[mA];simp only[go_sem];refine PC.use (U4 (dec n.natAbs) (dec d) (eJ I) (eJ u)) ?_;rw[show IZ (dec n.natAbs) (dec d)=(dec (Nat.gcd n.natAbs d),0)by unfold IZ;rw[if_pos (wT I u),cF,cF,Bw F]];simp only[go_sem];refine aB (fun E=>by cases E) (fun _=>?_);simp only[go_sem];refine PC.use (Il (zed n) (dec (Nat.gcd n.natAbs d)) (O I) (eJ F)) ?_;rw[T];simp only[go_sem];refine aB (fun E=>by cases E) (fun _=>?_);simp only[go_sem];refine PC.use (Il (dec d) (dec (Nat.gcd n.natAbs d)) (eJ u) (eJ F)) ?_;rw[ed];simp only[go_sem];refine aB (fun E=>by cases E) (fun _=>?_);simp only[go_sem,Pm];generalize mkRat n d=x at *;refine aB (fun E=>?_) (fun E=>?_)
 . have h1:x.den=1:=uU.1 (rC.1 E)
   simp only[go_sem];rw[show tO x=zed x.num from if_pos h1];exact .refl _
 . have h1:x.den≠1:=fun e=>pH.1 E (by rw[e])
   simp only[go_sem];have z1:=O J.1;have z2:=eJ J.2;have z3:(zed x.num++slB).size=(zed x.num).size+1:=by rw[ByteArray.size_append];rfl
   refine⟨by show((zed x.num).size+(1:Nat):Int)<=9223372036854775807;omega,?_⟩;refine⟨by show(((zed x.num).size+1+(dec x.den).size:Nat):Int)<=9223372036854775807;omega,?_⟩;rw[show tO x=zed x.num++slB++dec x.den from if_neg h1];exact .refl _
end Go.Proofs.YtohmomanmikphaaGreatDoor.Nu
end
section
namespace Go.Proofs.YtohmomanmikphaaGreatDoor.Nu
open Go.Proofs.Tryz(prog)
open Go.Aw Go.Aw.D Go.Proofs Ty Go.Nu
abbrev Pr:=ByteArray×ByteArray
def yA(p:Pr):List AV:=[str p.1,str p.2]
theorem GK(p:Pr):(yA p).length=2:=(rfl)
theorem Yo(p:Pr):(yA p).getD 0 .any=str p.1:=(rfl)
theorem Zm(p:Pr):(yA p).getD 1 .any=str p.2:=(rfl)
theorem Tp(p:Pr):(yA p).take 2=yA p:=(rfl)
attribute [go_sem] GK Yo Zm Tp
def prA(p:Pr):List AV:=[str (xD p.1 p.2).1]
def prE:List Pr->Int
 | []=>0
 | p::l=>if(xD p.1 p.2).2≠0 then(xD p.1 p.2).2 else prE l
theorem JR:∀{l:List Pr},(∀p∈l,(xD p.1 p.2).2=0)->prE l=0
 | [],_=>rfl
 | p::l,h=>by unfold prE;rw[if_neg (by simp[h p (by simp)])];exact JR fun q u=>h q (by simp[u])
theorem WV:∀{l:List Pr} {k:Nat} {p:Pr},l[k]?=some p->(∀q∈l.take k,(xD q.1 q.2).2=0)->(xD p.1 p.2).2≠0->prE l=(xD p.1 p.2).2
 | [],k,p,h,_,_=>by simp at h
 | a::l,0,p,h,_,h2=>by
   simp at h;subst h;unfold prE;rw[if_pos h2]
 | a::l,k+1,p,h,h1,h2=>by
   unfold prE;rw[if_neg (by simp[h1 a (by simp)])];exact WV (k:=k) (by simpa using h) (fun q u=>h1 q (by simp[u])) h2
def aaN(l:List (List AV)):Row:=⟨9,1,l⟩
theorem DI(l:List Pr)(hl:l.length<=1048576)(hs:∀p∈l,p.1.size<=1048576/\p.2.size<=1048576):PC prog 220 [.sl (l.map yA)] (.tup [.sl (if prE l=0 then l.map prA else[]),int (prE l)]):=by
 refine pcb (fun t=>t == 6||t == 11) Tryz.func220 ?_;unfold Tryz.f220;simp only[gdS];simp only[go_sem];refine⟨⟨⟨by omega,by omega⟩,by omega⟩,?_⟩;refine aM fun j hj=>?_
 simp only[go_sem];refine⟨fun ρ H=>∃(k j:Nat),k<=l.length/\ρ 12=.sl (l.map yA)/\ρ 13=int l.length/\ρ 4=.os j/\ρ 14=int k/\H j=some (aaN ((l.take k).map prA))/\∀p∈l.take k,(xD p.1 p.2).2=0,fun ρ _=>l.length-aV (ρ 14),
   ⟨0,j,Xac _,by simp only[go_sem],by simp only[go_sem,Xaa],by simp only[go_sem],by simp only[go_sem];rfl,aA _ _ _,by simp⟩,?_⟩
 clear hj j;rintro ρ H ⟨k,j,hk,u,F,M,E,Z,hz⟩;simp only[go_sem,u,F,M,E];refine aB (fun J=>?_) (fun T=>?_)
 . have J:=ltB J
   obtain⟨p,I⟩:=aN J;have b1:=inB J;have ab:=hs p (Xae I);simp only[go_sem,u,F,M,E,aE I,b1];refine aM fun i hi=>?_
   have aa:j≠i:=aO Z hi;simp only[go_sem,u,F,M,E];refine aJ (aA _ _ _) (by simp[GK]) ?_;generalize hG:aI (aI _ i _) i _=HG;have Ri:HG i=some (⟨247,2,[yA p]⟩:Row):=by rw[<-hG,aA];rfl
   have ac:HG j=some (aaN ((l.take k).map prA)):=by rw[<-hG,aD _ _ _ _ aa,aD _ _ _ _ aa];exact Z
   clear hG hi Z;simp only[go_sem,u,F,M,E,Ri]
   repeat (refine⟨by first|decide|omega,?_⟩)
   refine PC.use (adD p.1 p.2 ab.1 ab.2) ?_;simp only[go_sem,u,F,M,E];refine aB (fun O=>?_) (fun O=>?_)
   . have O:(xD p.1 p.2).2≠0:=by simpa using O
     simp only[go_sem];have e:prE l=(xD p.1 p.2).2:=WV I hz O;rw[e,if_neg O];exact .refl _
   . have O:(xD p.1 p.2).2=0:=by simpa using O
     simp only[go_sem,u,F,M,E];refine bE ac ⟨rfl,rfl⟩ ⟨rfl,trivial⟩ (by simp only[aaN,Xaa,Xal,Xad,List.length_nil];omega) (fun j' ad=>?_);simp only[go_sem,u,F,M,E,aP (show k<=4611686018427387904 by omega)];refine⟨⟨k+1,j',J,rfl,rfl,?_,?_⟩,by simp only[aF];omega⟩
     . rw[aA]
       simp only[aaN,bQ I,Xam,Xar,Xbc];rfl
     . intro q hq
       rw[bQ I]at hq;rcases Xba.1 hq with hq|hq
       . exact hz q hq
       . rw[Xat.1 hq];exact O
 . have T:=geB hk T
   subst T;rw[Xag]at Z hz;simp only[go_sem,M,Z];have e:prE l=0:=JR hz;rw[if_pos e,e];exact .tup _ _ (.cons _ _ _ _ (.row _ _ _ Z (ConvE.refl _)) (ConvL.refl _))
theorem D8{m n:Int}(u:m.natAbs<dB)(E:n.natAbs<dB):xD (zed m) (zed n)=szZ (m*n):=by unfold xD;rw[if_pos (tA u E),cY,cY]
theorem VM{m n:Int}(u:m.natAbs<dB)(E:n.natAbs<dB):Sa (zed m) (zed n)=szZ (m+n):=by unfold Sa;rw[if_pos (tA u E),cY,cY]
theorem Ui{m n:Int}(u:m.natAbs<dB)(E:n.natAbs<dB):Te (zed m) (zed n)=szZ (m-n):=by unfold Te;rw[if_pos (tA u E),cY,cY]
theorem I1{n:Int}(h:lZ n=false):szZ n=(zed n,0):=if_pos (lB.1 h)
theorem De{n:Int}(h:lZ n=true):szZ n=(emp,4):=if_neg (fun u=>by rw[lB.2 u]at h;cases h)
theorem gH{m:Int}(u:m.natAbs<dB):(zed m).size<=1048576:=by
 have:=(sU m).2 u;unfold eD at this;split at this
 . rw[<-fE,iW,List.length_drop]at this
   rw[<-fE];omega
 . omega
theorem Cj{a b c d:Int}(E:a.natAbs<dB)(u:b.natAbs<dB)(I:c.natAbs<dB)(J:d.natAbs<dB):
   PC prog 220 [.sl [[str (zed a),str (zed b)],[str (zed c),str (zed d)]]] (if(lZ (a*b)||lZ (c*d))=true then .tup [.sl [],int 4]else .tup [.sl [[str (zed (a*b))],[str (zed (c*d))]],int 0]):=by
 have:=DI [(zed a,zed b),(zed c,zed d)] (by simp) (by simp[gH,E,u,I,J]);simp only[prE,D8 E u,D8 I J,Xar,Xbc,prA,yA]at this;cases h1:lZ (a*b)with
 | true=>rw[De h1]at this;simpa using this
 | false=>
   rw[I1 h1]at this;cases F:lZ (c*d)with
   | true=>rw[De F]at this;simpa using this
   | false=>rw[I1 F]at this;simpa using this
theorem J8{a b:Int}(u:a.natAbs<dB)(E:b.natAbs<dB):
   PC prog 220 [.sl [[str (zed a),str (zed b)]]] (if lZ (a*b)=true then .tup [.sl [],int 4]else .tup [.sl [[str (zed (a*b))]],int 0]):=by
 have:=DI [(zed a,zed b)] (by simp) (by simp[gH,u,E]);simp only[prE,D8 u E,Xar,Xbc,prA,yA]at this;cases h1:lZ (a*b)with
 | true=>rw[De h1]at this;simpa using this
 | false=>rw[I1 h1]at this;simpa using this
def fv(g:FuncId):AV:=.v (.func (.func g) #[] #[])
def Qc(op:Int->Int->Int)(x y:Rat):ByteArray×Int:=
 if(lZ (x.num*y.den)||lZ (y.num*x.den)||lZ (op (x.num*y.den) (y.num*x.den))||lZ (x.den*y.den))=true then(emp,4)else(tO (mkRat (op (x.num*y.den) (y.num*x.den)) (x.den*y.den)),0)
def Cm(op:Int->Int->Int)(a b:ByteArray):ByteArray×Int:=if(cG a&&cG b)=true then Qc op (rQ a) (rQ b)else(emp,3)
theorem G0(g:FuncId)(op:Int->Int->Int)(ab:aC prog g=true)(hg:∀m n:Int,m.natAbs<dB->n.natAbs<dB->PC prog g [str (zed m),str (zed n)] (.tup [str (szZ (op m n)).1,int (szZ (op m n)).2]))
   (a b:ByteArray) (ha:a.size<=1048576) (u:b.size<=1048576):PC prog 163 [str a,str b,fv g] (.tup [str (Cm op a b).1,int (Cm op a b).2]):=by
 have E:=N9 a b ha u;by_cases O:(cG a&&cG b)=true
 rotate_left
 . rw[show HW a b=_ from if_neg O]at E
   rw[show Cm op a b=(emp,3)from if_neg O];unfold fv;refine pcd Tryz.func163 ?_;unfold Tryz.f163;simp only[gdS];simp only[go_sem];refine PC.use E ?_;simp only[go_sem];refine aB (fun _=>?_) (fun u=>by cases u);simp only[go_sem];exact .refl _
 rw[show HW a b=_ from if_pos O]at E;rw[show Cm op a b=_ from if_pos O];simp only[Xap]at O;obtain⟨x,rfl,hx,e1,e2⟩:=iX O.1;obtain⟨y,rfl,hy,e3,e4⟩:=iX O.2;rw[e1,e2,e3,e4]at E;rw[nH,nH];have xd:((x.den:Int)).natAbs<dB:=by rw[Xbh];exact hx.2
 have yd:((y.den:Int)).natAbs<dB:=by rw[Xbh];exact hy.2
 have T:=Cj hx.1 yd hy.1 xd;have Z:=J8 xd yd;rw[fD,fD]at T Z;unfold fv;refine pcd Tryz.func163 ?_;unfold Tryz.f163;simp only[gdS];simp only[go_sem];refine PC.use E ?_;simp only[go_sem];refine aB (fun u=>by cases u) (fun _=>?_);simp only[go_sem];unfold Qc;cases I:(lZ (x.num*y.den)||lZ (y.num*x.den))with
 | true=>
   rw[I,if_pos rfl]at T;refine PC.use T ?_;simp only[go_sem];refine aB (fun _=>?_) (fun u=>by cases u);exact .refl _
 | false=>
   rw[I]at T;simp only[Xay,if_false]at T;refine PC.use T ?_;simp only[go_sem];refine aB (fun u=>by cases u) (fun _=>?_);simp only[go_sem];have F:=I;simp only[Xak]at F;have aa:=hg _ _ (lB.1 F.1) (lB.1 F.2);refine dA (by rfl) (by kernel_rfl) ?_;simp only[go_sem,Xad,List.length_nil]
   repeat (refine⟨by first|decide|omega,?_⟩)
   refine⟨_,aa.q rfl,?_⟩;simp only[go_sem];generalize hN:op (x.num*y.den) (y.num*x.den)=N;cases J:lZ N with
   | true=>
     rw[De J];refine aB (fun _=>?_) (fun u=>by cases u);simp only[go_sem,I,Bool.false_or,Bool.true_or,if_true];exact .refl _
   | false=>
     rw[I1 J];refine aB (fun u=>by cases u) (fun _=>?_);simp only[go_sem];cases M:lZ ((x.den:Int)*y.den)with
     | true=>
       rw[M,if_pos rfl]at Z;refine PC.use Z ?_;simp only[go_sem];refine aB (fun _=>?_) (fun u=>by cases u);simp only[go_sem,Bool.or_true,if_true];exact .refl _
     | false=>
       rw[M]at Z;simp only[Xay,if_false]at Z;refine PC.use Z ?_;simp only[go_sem];refine aB (fun u=>by cases u) (fun _=>?_);simp only[go_sem,Xad,List.length_nil]
       repeat (refine⟨by first|decide|omega,?_⟩)
       have hD:x.den*y.den<dB:=by rw[<-Dg];exact lB.1 M
       have:=Uh N (x.den*y.den) (I6 x y) (lB.1 J) hD;rw[<-fD,Int.natCast_mul]at this;refine PC.use this ?_;simp only[go_sem];exact .refl _
theorem Sf(a b:ByteArray):Cm (·+·) a b=zJ a b:=by
 unfold Cm zJ Qc EB;simp only[Oz]
theorem SD(a b:ByteArray):Cm (·-·) a b=Ev a b:=by
 unfold Cm Ev Qc EB;simp only[Oz,Rat.neg_num,Rat.neg_den,Int.neg_mul,<-Int.sub_eq_add_neg];have:∀n:Int,lZ (-n)=lZ n:=fun n=>by unfold lZ;rw[Int.natAbs_neg]
 simp only[this]
theorem wN(a b:ByteArray)(F:a.size<=1048576)(I:b.size<=1048576):PC prog 162 [str a,str b] (.tup [str (zJ a b).1,int (zJ a b).2]):=by
 have:=G0 222 (·+·) (by kernel_rfl) (fun m n u E=>by rw[<-VM u E];exact adF _ _ (gH u) (gH E)) a b F I;rw[Sf]at this;unfold fv at this;refine pcd Tryz.func162 ?_;unfold Tryz.f162;simp only[gdS];simp only[go_sem];refine PC.use this ?_;simp only[go_sem];exact .refl _
theorem wV(a b:ByteArray)(F:a.size<=1048576)(I:b.size<=1048576):PC prog 98 [str a,str b] (.tup [str (Ev a b).1,int (Ev a b).2]):=by
 have:=G0 164 (·-·) (by kernel_rfl) (fun m n u E=>by rw[<-Ui u E];exact acJ _ _ (gH u) (gH E)) a b F I;rw[SD]at this;unfold fv at this;refine pcd Tryz.func98 ?_;unfold Tryz.f98;simp only[gdS];simp only[go_sem];refine PC.use this ?_;simp only[go_sem];exact .refl _
theorem adT(a b:ByteArray)(Z:a.size<=1048576)(F:b.size<=1048576):PC prog 161 [str a,str b] (.tup [str (yV a b).1,int (yV a b).2]):=by
 have u:=N9 a b Z F;by_cases I:(cG a&&cG b)=true
 rotate_left
 . rw[show HW a b=_ from if_neg I]at u
   rw[show yV a b=(emp,3)from if_neg I];refine pcd Tryz.func161 ?_;unfold Tryz.f161;simp only[gdS];simp only[go_sem];refine PC.use u ?_;simp only[go_sem];refine aB (fun _=>?_) (fun F=>by cases F);simp only[go_sem];exact .refl _
 rw[show HW a b=_ from if_pos I]at u;rw[show yV a b=_ from if_pos I];simp only[Xap]at I;obtain⟨x,rfl,O,T,e2⟩:=iX I.1;obtain⟨y,rfl,M,e3,e4⟩:=iX I.2;rw[T,e2,e3,e4]at u;rw[nH,nH];have xd:((x.den:Int)).natAbs<dB:=by rw[Xbh];exact O.2
 have yd:((y.den:Int)).natAbs<dB:=by rw[Xbh];exact M.2
 have J:=Cj O.1 M.1 xd yd;rw[fD,fD]at J;refine pcd Tryz.func161 ?_;unfold Tryz.f161;simp only[gdS];simp only[go_sem];refine PC.use u ?_;simp only[go_sem];refine aB (fun F=>by cases F) (fun _=>?_);simp only[go_sem];unfold LL;cases E:(lZ (x.num*y.num)||lZ ((x.den:Int)*y.den))with
 | true=>
   rw[E,if_pos rfl]at J;refine PC.use J ?_;simp only[go_sem];refine aB (fun _=>?_) (fun F=>by cases F);exact .refl _
 | false=>
   rw[E]at J;simp only[Xay,if_false]at J;refine PC.use J ?_;simp only[go_sem];refine aB (fun F=>by cases F) (fun _=>?_);simp only[go_sem];simp only[Xak]at E;have hD:x.den*y.den<dB:=by rw[<-Dg];exact lB.1 E.2
   have:=Uh (x.num*y.num) (x.den*y.den) (I6 x y) (lB.1 E.1) hD;rw[<-fD,Int.natCast_mul]at this;refine dA (by rfl) (by kernel_rfl) ?_;simp only[go_sem,Xad,List.length_nil]
   repeat (refine⟨by first|decide|omega,?_⟩)
   refine⟨_,this.q rfl,?_⟩;simp only[go_sem];rw[<-Vf];exact .refl _
end Go.Proofs.YtohmomanmikphaaGreatDoor.Nu
end
section
namespace Go.Nu
open Go Go.Lib
theorem gH{m:Int}(u:m.natAbs<dB):(zed m).size<=4097:=by
 have:=(sU m).2 u;unfold eD at this;split at this
 . rw[<-fE,iW,List.length_drop]at this
   rw[<-fE];omega
 . omega
theorem GU{x:Rat}(h:By x):(tO x).size<=8194:=by
 have h1:=gH h.1;have u:=(hJ x.den).2 h.2;unfold tO;split
 . omega
 . rw[ByteArray.size_append,ByteArray.size_append]
   have:slB.size=1:=rfl;omega
theorem qS{s:ByteArray}(h:cG s=true):s.size<=8194:=by
 obtain⟨x,rfl,u,_⟩:=iX h;exact GU u
theorem ET{a b:ByteArray}(h:(zJ a b).2=0):cG (zJ a b).1=true:=by
 unfold zJ at h |-;split at h
 . rename_i E
   rw[if_pos E];obtain⟨e,u⟩:=zG h;rw[e];exact qR u
 . cases h
theorem MZ{a b:ByteArray}(h:(yV a b).2=0):cG (yV a b).1=true:=by
 unfold yV at h |-;split at h
 . rename_i E
   rw[if_pos E];obtain⟨e,u⟩:=LV h;rw[e];exact qR u
 . cases h
def uA:List (Int×ByteArray)->ByteArray->ByteArray×Int
 | [],t=>(t,0)
 | p :: l, t => if (yV (zed p.1) p.2).2 ≠ 0 then (emp, (yV (zed p.1) p.2).2) else
     if(zJ t (yV (zed p.1) p.2).1).2≠0 then(emp,(zJ t (yV (zed p.1) p.2).1).2)else uA l (zJ t (yV (zed p.1) p.2).1).1
def pL(ns:List Int)(xs:List ByteArray):ByteArray×Int:=
 if ns.length≠xs.length then(emp,2)else if xs.any (fun x=> !cG x)=true then(emp,3)else uA (ns.zip xs) (dec 0)
theorem OR:cG (dec 0)=true:=by
 have:dec 0=tO 0:=(fD 0).symm.trans (if_pos (show(0:Rat).den=1 from rfl)).symm;rw[this];exact qR ⟨Zy,Pc (k:=1) (by decide) (by decide)⟩
end Go.Nu
end
section
namespace Go.Proofs.YtohmomanmikphaaGreatDoor.Nu
open Go.Proofs.Tryz(prog)
open Go.Aw Go.Aw.D Go.Proofs Ty Go.Nu
theorem Ki{p q:Int}(F:0<q):(p.fdiv q).natAbs<=p.natAbs:=by
 obtain⟨e,h0,h1⟩:=pR (p:=p) F;generalize p.fdiv q=d at *;generalize p.fmod q=m at *;rcases Int.lt_or_le d 0 with E|E
 . have u:(d+1)*q<=(d+1)*1:=Int.mul_le_mul_of_nonpos_left (by omega) (by omega)
   rw[Int.add_mul]at u;omega
 . have u:d*1<=d*q:=Int.mul_le_mul_of_nonneg_left (by omega) E
   omega
theorem Ku{p q:Int}(u:p.natAbs<dB)(E:q.natAbs<dB)(h:0<q):C0 (zed p) (zed q)=(zed (p.fdiv q),zed (p.fmod q),0):=by
 unfold C0;rw[if_pos (tA u E),cY,cY,if_neg (by omega)]
theorem WD(i j:Int):Vp (zed i) (zed j)=iK i j:=by unfold Vp;rw[if_pos ⟨nR _,nR _⟩,cY,cY]
theorem Oo(i j:Int):iK i j= -1\/iK i j=0\/iK i j=1:=by
 unfold iK;split
 . exact .inl rfl
 . split
   . exact .inr (.inr rfl)
   . exact .inr (.inl rfl)
def alT:AV->Nat
 | .v (.string s)=>(iT s).natAbs
 | _=>0
theorem K7(n:Int):alT (str (zed n))=n.natAbs:=by show(iT (zed n)).natAbs=_;rw[cY]
theorem EC(n:Int):(bl (zed n) == [48])=decide (n=0):=by
 rw[tS,<-show zed ((0:Nat):Int)=dec 0 from fD 0,Xau,rC,WL,decide_eq_true_iff];exact Iff.rfl
theorem arZ{a b:Int}(u:a=1\/a= -1)(E:b= -1\/b=0\/b=1):IntKind.i64.wrap (a*b)=a*b:=by
 rcases u with rfl|rfl <;> rcases E with rfl|rfl|rfl <;> rfl
theorem Ju{a:Int}(u:a=1\/a= -1):IntKind.i64.wrap (0-a)= -a:=by rcases u with rfl|rfl <;> rfl
theorem tV(a b:ByteArray)(ha:a.size<=1048576)(hb:b.size<=1048576):PC prog 59 [str a,str b] (int (Fj a b)):=by
 have E:=N9 a b ha hb;by_cases hr:(cG a&&cG b)=true
 rotate_left
 . rw[show HW a b=_ from if_neg hr]at E
   rw[show Fj a b=0 from if_neg hr];refine pcd Tryz.func59 ?_;unfold Tryz.f59;simp only[gdS];simp only[go_sem];refine PC.use E ?_;simp only[go_sem];refine aB (fun _=>?_) (fun hb=>by cases hb);simp only[go_sem];exact .refl _
 rw[show HW a b=_ from if_pos hr]at E;rw[show Fj a b=_ from if_pos hr];simp only[Xap]at hr;obtain⟨x,rfl,hx,e1,e2⟩:=iX hr.1;obtain⟨y,rfl,hy,e3,e4⟩:=iX hr.2;rw[e1,e2,e3,e4]at E;rw[nH,nH];have xd:((x.den:Int)).natAbs<dB:=by rw[Xbh];exact hx.2
 have yd:((y.den:Int)).natAbs<dB:=by rw[Xbh];exact hy.2
 have x0:=x.den_nz;have y0:=y.den_nz;rw[<-fD,<-fD]at E;refine pcd Tryz.func59 ?_;unfold Tryz.f59;simp only[gdS];simp only[go_sem];refine PC.use E ?_;simp only[go_sem];refine aB (fun hb=>by cases hb) (fun _=>?_);simp only[go_sem];refine⟨fun ρ _=>∃(p q r s g:Int),ρ 5=str (zed p)/\ρ 6=str (zed q)/\ρ 7=str (zed r)/\ρ 8=str (zed s)/\ρ 10=int g/\(g=1\/g= -1)/\0<q/\0<s/\p.natAbs<dB/\q.natAbs<dB/\r.natAbs<dB/\s.natAbs<dB/\Og x y=g*Fi p q r s,fun ρ _=>alT (ρ 6),
   ⟨x.num,x.den,y.num,y.den,1,by simp only[go_sem],by simp only[go_sem],by simp only[go_sem],by simp only[go_sem],by simp only[go_sem],.inl rfl,by omega,by omega,hx.1,xd,hy.1,yd,by rw[Int.one_mul,TM]⟩,?_⟩
 rintro ρ H ⟨p,q,r,s,g,O,T,Z,M,u,hg,hq,hs,bp,bq,br,bs,F⟩;simp only[go_sem,O,T,Z,M,u];refine PC.use (Il (zed p) (zed q) (gH bp) (gH bq)) ?_;rw[Ku bp bq hq];simp only[go_sem,O,T,Z,M,u];refine PC.use (Il (zed r) (zed s) (gH br) (gH bs)) ?_;rw[Ku br bs hs];simp only[go_sem,O,T,Z,M,u];have d1:=Ki (p:=p) hq;have d2:=Ki (p:=r) hs;refine PC.use (M0 (zed (p.fdiv q)) (zed (r.fdiv s)) (gH (by omega)) (gH (by omega))) ?_;rw[WD];simp only[go_sem,O,T,Z,M,u];obtain⟨_,m0,m1⟩:=pR (p:=p) hq;obtain⟨_,n0,n1⟩:=pR (p:=r) hs;have c3:=Oo (p.fdiv q) (r.fdiv s);refine aB (fun hc=>?_) (fun hc=>?_)
 . have hc:iK (p.fdiv q) (r.fdiv s)≠0:=by simpa using hc
   simp only[go_sem,u,arZ hg c3];refine cI ?_;rw[F,NV hq hs (fun e=>hc (qT e))]
 have hc:p.fdiv q=r.fdiv s:=G6.1 (by simpa using hc);have hX:=TK hq hs hc;generalize p.fmod q=m at *;generalize r.fmod s=n at *;simp only[go_sem,O,T,Z,M,u,EC];refine aB (fun hz=>?_) (fun hz=>?_)
 . have hz:m=0/\n=0:=by simpa using hz
   simp only[go_sem];refine cI ?_;rw[F,hX,hz.1,hz.2,Int.zero_mul,Int.zero_mul,qT rfl,Int.mul_zero]
 simp only[go_sem,O,T,Z,M,u,EC];refine aB (fun J=>?_) (fun J=>?_)
 . have J:m=0:=of_decide_eq_true J
   have I:0<n:=by
     rcases Int.lt_or_le 0 n with h|h
     . exact h
     . exfalso
       have:n=0:=by omega
       rw[J,this]at hz;cases hz
   simp only[go_sem,u,Ju hg];refine cI ?_;rw[F,hX,J,Int.zero_mul,iP (Int.mul_pos I hq)];omega
 have J:0<m:=by have:=of_decide_eq_false J;omega
 simp only[go_sem,O,T,Z,M,u,EC];refine aB (fun I=>?_) (fun I=>?_)
 . have I:n=0:=of_decide_eq_true I
   simp only[go_sem,u];refine cI ?_;rw[F,hX,I,Int.zero_mul,iQ (Int.mul_pos J hs)];omega
 have I:0<n:=by have:=of_decide_eq_false I;omega
 simp only[go_sem,O,T,Z,M,u,Ju hg];refine⟨⟨q,m,s,n,-g,rfl,rfl,rfl,rfl,rfl,by omega,J,I,bq,by omega,bs,by omega,?_⟩,?_⟩
 . rw[F,hX,Tl]
   rw[Int.mul_neg,Int.neg_mul]
 . rw[K7,K7];omega
end Go.Proofs.YtohmomanmikphaaGreatDoor.Nu
end
