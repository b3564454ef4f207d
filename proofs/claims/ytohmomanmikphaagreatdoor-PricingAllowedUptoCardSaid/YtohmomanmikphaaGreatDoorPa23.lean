import Derived.Test.YtohmomanmikphaaGreatDoorPa21
import Derived.Test.YtohmomanmikphaaGreatDoorPa22
set_option linter.unusedSimpArgs false
set_option linter.unusedVariables false
set_option maxRecDepth 100000
namespace Go.Proofs.YtohmomanmikphaaGreatDoor
open Go.Aw Go.Aw.D Go.Proofs Ty
namespace Nu.Ps
open Go.Proofs.Tryz(prog)
open Go.Nu Go.So
open Dec (mP dT eY dY uG lQ)
open Sq (EvalB BestQ sO nT cE alT ON)
structure PrOk(x:Instance)(d:Nat):Prop where
 ev:EvalB x
 n8:x.orders.length<=8
 ty:x.types.length<=1000
 lo:LoadsOk x d
 ne:x.types≠[]
def inD(ds:List Decision)(c:Column):Bool:=ds.all fun d=>eY d c.set
theorem Re(ds:List Decision)(c:Column)(E:ds.length<=1048576):PC prog 38 [.agg (aU c),.rp [.sl (ds.map bE)] 0] (boo (!inD ds c)):=by
 refine pcd Tryz.func38 ?_;unfold Tryz.f38;simp only[gdS];simp only[go_sem];refine PC.use (Dec.Zk ds c E) ?_;simp only[go_sem];exact .refl _
def dR(x:Instance)(ds:List Decision):List Column×Int:=if(mP x ds != 0)=true then([],mP x ds)else((sO x).filter (inD ds),0)
theorem D6(x:Instance)(d:Nat)(ds:List Decision)(h:PrOk x d)(V:ds.length<=1048576):
   NC prog 16 [.agg (aD x),.sl (ds.map bE)] (cE (dR x ds).1) (fun j=>.tup [.os j,int (dR x ds).2]):=by
 refine ncb (fun t=>t == 4) Tryz.func16 ?_;unfold Tryz.f16;simp only[gdS];simp only[go_sem];unfold dR;refine aL fun j I=>?_
 generalize E:aI _ j _=HGj;have R:HGj j=some (cE []):=by rw[<-E,aA];try rfl
 clear E I;simp only[go_sem,R];refine PC.use (Dec.amD x ds V) ?_;simp only[go_sem];refine aB (fun J=>?_) (fun J=>?_)
 . rw[if_pos J]
   simp only[go_sem];refine aL fun j I=>?_
   generalize E:aI _ j _=HGj;have R:HGj j=some (cE []):=by rw[<-E,aA];try rfl
   clear E I;simp only[go_sem,R];exact⟨j,rfl,R⟩
 rw[if_neg (by rw[J];simp)];simp only[go_sem];refine NC.use (alT x h.ev h.n8 h.ty) fun j1 ab=>?_
 have R1:aI HGj j1 (some (cE (sO x))) j1=some (cE (sO x)):=aA _ _ _;generalize aI HGj j1 (some (cE (sO x)))=H1 at *;have F:=Sq.tA x x.types.length;have h8:2^x.orders.length<=256:=Xal (Xav (by decide) h.n8) (by decide);have U:x.types.length*2^x.orders.length<=256000:=Xal (Nat.mul_le_mul h.ty h8) (by decide);have F:(sO x).length<=256000:=Xal F U;have O:aG prog 38=true:=by kernel_rfl
 simp only[go_sem];refine aB (fun J=>(by cases J)) (fun _=>?_);simp only[go_sem,O];refine ON (p:=fun c=> !inD ds c) (cap':=[.rp [.sl (ds.map bE)] 0]) (sO x) _ j1 R1 (by omega) O (fun v _=>Re ds v V) (fun H' h'=>ConvL.refl _) fun X H2 aa Y Z=>?_
 simp only[go_sem];refine⟨X,rfl,?_⟩;rw[Z];simp only[Bool.not_not]
def rU(x:Instance)(d:Nat)(cuts:List Cut)(ds:List Decision)(dual:List ByteArray):Int:=
 if(mP x ds != 0)=true then mP x ds
 else if Dec.iB (cuts.map (GF x d))≠0 then Dec.iB (cuts.map (GF x d))
 else if((dual.length:Int) != (aAg x cuts ds:Nat))=true then 2 else 0
theorem EP{x:Instance}{d:Nat}{cuts:List Cut}{ds:List Decision}{dual:List ByteArray}(h:rU x d cuts ds dual=0):∀q∈cuts,GF x d q=0:=by
 unfold rU at h;split at h
 next E=>rw[h]at E;cases E
 split at h
 next E=>exact absurd h E
 next E=>exact fun q F=>Dec.vS (Decidable.not_not.1 E) _ (Xbd.2 ⟨q,F,rfl⟩)
end Nu.Ps
namespace Nu.Ps
open Go.Proofs.Tryz(prog)
open Go.Nu Go.So
open Dec (mP dT eY dY uG lQ)
open Sq (EvalB BestQ sO nT cE eK)
theorem adC(x:Instance)(r:Route): -9223372036854775808<=(eK x r).1/\(eK x r).1<=9223372036854775807:=by
 unfold eK;split
 . show -9223372036854775808<=(0:Int)/\(0:Int)<=9223372036854775807
   omega
 . unfold Sq.lZ
   split
   . exact⟨by decide,by decide⟩
   . split
     . exact⟨by decide,by decide⟩
     . exact Rx.Z5 _
structure ColQ(x:Instance)(c:Column):Prop where
 b:ColB c
 price: -9223372036854775808<=c.price/\c.price<=9223372036854775807
theorem Vv{x:Instance}{c:Column}(E:x.orders.length<=8)(h:c∈sO x):ColQ x c:=by
 obtain⟨k,s,h⟩:=nT E h;obtain⟨l,F,_,_,_⟩:=h.is;have h1:=h.pos;have I:=h.top;have J:(2:Int)^x.orders.length<=256:=by
   have:2^x.orders.length<=256:=Xal (Xav (by decide) E) (by decide)
   exact_mod_cast this
 rw[F];exact⟨⟨by show 0<=(s:Int)/\(s:Int)<=9223372036854775807;omega⟩,adC _ _⟩
theorem CN{x:Instance}{ds:List Decision}{c:Column}(h:c∈(dR x ds).1):c∈sO x/\inD ds c=true:=by
 unfold dR at h;split at h
 . cases h
 . exact⟨(List.mem_filter.1 h).1,(List.mem_filter.1 h).2⟩
theorem zH(x:Instance)(ds:List Decision)(I:x.orders.length<=8)(J:x.types.length<=1000):(dR x ds).1.length<=256000:=by
 have E:=Sq.tA x x.types.length;have O:2^x.orders.length<=256:=Xal (Xav (by decide) I) (by decide);have F:x.types.length*2^x.orders.length<=256000:=Xal (Nat.mul_le_mul J O) (by decide);have E:(sO x).length<=256000:=Xal E F;unfold dR;split
 . exact Xab _
 . exact Xal (Xcc _ _) E
theorem C2(a b:Priced)(E:a.reduced.size<=1048576)(F:b.reduced.size<=1048576):PC prog 28 [.agg (dA a),.agg (dA b)] (int (IN a.reduced b.reduced)):=by
 refine pcd Tryz.func28 ?_;unfold Tryz.f28;simp only[gdS];simp only[go_sem];refine PC.use (yL a.reduced b.reduced E F) ?_;simp only[go_sem];exact .refl _
def oU(x:Instance)(cuts:List Cut)(ds:List Decision)(dual:List ByteArray):List Priced×Int:=
 if((dR x ds).2 != 0)=true then([],(dR x ds).2)
 else if Dec.iB ((dR x ds).1.map fun c=>(eT x c cuts ds dual).2)≠0 then([],Dec.iB ((dR x ds).1.map fun c=>(eT x c cuts ds dual).2))
 else((dR x ds).1.map fun c=>⟨c,(eT x c cuts ds dual).1⟩,0)
theorem aoW(l:List Priced)(p:Priced):(⟨69,8,l.map dA++[dA p]⟩:Row)=lL (l++[p]):=by
 show _=(⟨69,8,(l++[p]).map dA⟩:Row);rw[Xar];rfl
theorem YS(x:Instance)(d:Nat)(cuts:List Cut)(ds:List Decision)(dual:List ByteArray)(h:PrOk x d)(hm:MIn x cuts ds)(hq:CutsB cuts)(hl:dual.length<=1048576)(hs:∀s∈dual,s.size<=1048576):
   NC prog 26 [.agg (aD x),.sl (cuts.map jM),.sl (ds.map bE),.sl (dual.map Go.Aw.D.gR)] (lL (oU x cuts ds dual).1) (fun j=>.tup [.os j,int (oU x cuts ds dual).2]):=by
 have ad:=zH x ds h.n8 h.ty;have ag:∀c∈(dR x ds).1,ColQ x c:=fun c hc=>Vv h.n8 (CN hc).1
 have hP:oU x cuts ds dual=(if((dR x ds).2 != 0)=true then([],(dR x ds).2)
   else if Dec.iB ((dR x ds).1.map fun c=>(eT x c cuts ds dual).2)≠0 then([],Dec.iB ((dR x ds).1.map fun c=>(eT x c cuts ds dual).2))
   else((dR x ds).1.map fun c=>⟨c,(eT x c cuts ds dual).1⟩,0)):=rfl
 refine ncb (fun t=>t == 8) Tryz.func26 ?_;unfold Tryz.f26;simp only[gdS];simp only[go_sem];generalize oU x cuts ds dual=RP at *;refine aL fun j V=>?_
 generalize E:aI _ j _=HGj;have R:HGj j=some (lL []):=by rw[<-E,aA];try rfl
 clear E V;simp only[go_sem,R];refine PC.use (Sq.NC.pc2 (D6 x d ds h hm.dl)) ?_;generalize dR x ds=A at *;obtain⟨A,e⟩:=A;simp only at ad ag hP;simp only[go_sem];refine aB (fun hb=>?_) (fun hb=>?_)
 . rw[if_pos hb]at hP
   simp only[go_sem];refine aL fun j V=>?_
   generalize E:aI _ j _=HGj;have R:HGj j=some (lL []):=by rw[<-E,aA];try rfl
   clear E V;simp only[go_sem,R];rw[hP];exact⟨j,rfl,R⟩
 rw[if_neg (by rw[hb];simp)]at hP;simp only[go_sem,Xaa];refine⟨by omega,?_⟩;refine aL fun j V=>?_
 generalize E:aI _ j _=HGj;have R:HGj j=some (lL []):=by rw[<-E,aA];try rfl
 clear E V;simp only[go_sem,R];refine⟨fun ρ H=>∃(k:Nat) (j:Nat),k<=A.length/\ρ 1=.sl (cuts.map jM)/\ρ 2=.sl (ds.map bE)/\ρ 3=.sl (dual.map Go.Aw.D.gR)/\ρ 4=.rp (aD x) 0/\ρ 29=.sl (A.map aU)/\ρ 30=int (A.length:Nat)/\ρ 31=int k/\ρ 12=.os j/\H j=some (lL ((A.take k).map fun c=>⟨c,(eT x c cuts ds dual).1⟩))/\(∀e∈(A.map fun c=>(eT x c cuts ds dual).2).take k,e=0),fun ρ _=>A.length-aV (ρ 31),⟨0,j,Xab _,by simp only[go_sem],by simp only[go_sem],by simp only[go_sem],by simp only[go_sem],by simp only[go_sem],by simp only[go_sem,Xaa],(by simp only[go_sem];rfl),by simp only[go_sem],R,by simp⟩,?_⟩;rintro ρ H ⟨k,j,hk,e1,e2,e3,e4,O,I,U,J,R,hz⟩;simp only[go_sem,e1,e2,e3,e4,O,I,U,J];refine aB (fun Z=>?_) (fun ab=>?_)
 . have Z:=ltB (by simpa using Z)
   obtain⟨c,hc⟩:=aN Z;have b1:=inB Z;have af:=ag c (Xac hc);have ac:(A.map fun c=>(eT x c cuts ds dual).2)[k]?=some (eT x c cuts ds dual).2:=by rw[List.getElem?_map,hc];rfl
   have ah:((A.take (k+1)).map fun c=>(⟨c,(eT x c cuts ds dual).1⟩:Priced))=((A.take k).map fun c=>⟨c,(eT x c cuts ds dual).1⟩)++[⟨c,(eT x c cuts ds dual).1⟩]:=by
     rw[bQ hc,Xar];rfl
   have ai:((A.take k).map fun c=>(⟨c,(eT x c cuts ds dual).1⟩:Priced)).length<=A.length:=by rw[Xaa,Xao];omega
   generalize ((A.take k).map fun c=>(⟨c,(eT x c cuts ds dual).1⟩:Priced))=L at *;simp only[go_sem,e1,e2,e3,e4,O,I,U,J,aC hc,b1];refine aL fun aa Y=>?_
   have F:j≠aa:=aP R Y;simp only[go_sem,e1,e2,e3,e4,O,I,U,J,R];refine aH (aA _ _ _) (by simp[cA]) ?_;generalize X:aI (aI _ aa _) aa _=HGi14;replace R:=kpR X F F R;have ae:HGi14 aa=some (cE [c]):=by rw[<-X,aA];try rfl
   clear X Y;simp only[go_sem,e1,e2,e3,e4,O,I,U,J,ae,R];refine PC.use (TZ x c cuts ds dual hm af.b hq af.price hl hs) ?_;simp only[go_sem,e1,e2,e3,e4,O,I,U,J];refine aB (fun hb=>?_) (fun hb=>?_)
   . have he:=Dec.xS hz ac hb
     rw[if_pos (by rw[he];simpa using hb),he]at hP;simp only[go_sem];refine aL fun j V=>?_
     generalize E:aI _ j _=HGj;have R:HGj j=some (lL []):=by rw[<-E,aA];try rfl
     clear E V;simp only[go_sem,R];rw[hP];exact⟨j,rfl,R⟩
   . simp only[go_sem,e1,e2,e3,e4,O,I,U,J,ae]
     refine Sq.PL (a:=dA ⟨c,(eT x c cuts ds dual).1⟩) rfl ⟨kA _,?_⟩;refine aZ R ⟨rfl,rfl⟩ (by simp only[go_sem]) (by simp only[Xaa,Xae,Xad,List.length_nil];omega) (fun j2 aj=>?_);simp only[go_sem,e1,e2,e3,e4,O,I,U,J,aT (show k<=4611686018427387904 by omega)];refine⟨⟨k+1,j2,Z,rfl,rfl,?_,sW (p:=fun e:Int=>e=0) ac (by simpa using hb) hz⟩,by simp only[aE];omega⟩;rw[ah,aA];exact congrArg some (aoW _ _)
 have ab:=geB hk (by simpa using ab);subst ab;rw[Xap (by rw[Xaa];exact Xah _)]at hz;rw[if_neg (by rw[Dec.vY hz];simp)]at hP;rw[Xag]at R;simp only[go_sem,e1,e2,e3,e4,O,I,U,J];rw[hP];exact⟨j,rfl,R⟩
def okP(p:Priced):Prop:=dI p.reduced=true
theorem GY{p:Priced}(h:okP p):p.reduced.size<=1048576:=Xal (vH h) (by decide)
theorem aoT{a b:ByteArray}(F:dI a=true)(I:dI b=true):IN a b<0↔rK a<rK b:=by
 unfold IN Qz;rw[F,I,Bool.and_self,if_pos rfl];split
 next h=>exact⟨fun _=>h,fun _=>by decide⟩
 next h=>
   split
   . exact⟨fun E=>absurd E (by decide),fun E=>absurd E h⟩
   . exact⟨fun E=>absurd E (by decide),fun E=>absurd E h⟩
theorem FC{a b:Priced}(E:okP a)(F:okP b):decide (IN a.reduced b.reduced<0)=ltP a b:=by
 unfold ltP;rw[decide_eq_decide];exact aoT E F
theorem B6:∀(l:List Priced) (m:Priced),yY m l=l.foldl (fun m p=>if ltP p m=true then p else m) m
 | [],m=>rfl
 | p::l,m=>B6 l _
theorem XF{l:List Priced}{p q:Priced}{k:Nat}(h:l[k]?=some q):yY p (l.take (k+1))=if ltP q (yY p (l.take k))=true then q else yY p (l.take k):=by
 rw[B6,B6,Sq.kF h]
theorem agO{p:Priced}{l:List Priced}(h:∀q∈p::l,okP q):okP (yY p l):=h _ (NW l p)
theorem Wp(p:Priced)(l:List Priced)(hl:l.length<=1048576)(hr:∀q∈p::l,okP q):
   PC prog 27 [.sl ((p::l).map dA),uH 28] (.agg (dA (yY p l))):=by
 have ai:aG prog 28=true:=by kernel_rfl
 refine pcd Tryz.func27 ?_;unfold Tryz.f27;simp only[gdS];simp only[go_sem];refine aL fun Y ae=>?_
 generalize aa:aI _ Y _=HGj4;have F:HGj4 Y=some (lL [⟨Sq.cJ,ByteArray.empty⟩]):=by rw[<-aa,aA];try rfl
 clear aa ae;simp only[go_sem,F];refine aB (fun hb=>absurd (of_decide_eq_true hb) (by omega)) (fun _=>?_);have g0:((p::l).map dA).getD 0 []=dA p:=rfl;simp only[go_sem,g0,Xaa,Xad];refine⟨by omega,?_⟩;refine aL fun I ab=>?_
 have E:Y≠I:=aP F ab;simp only[go_sem,g0,F];refine aH (aA _ _ _) (by simp[kA]) ?_;generalize J:aI (aI _ I _) I _=HGi5;replace F:=kpR J E E F;have X:HGi5 I=some (lL [p]):=by rw[<-J,aA];try rfl
 clear J ab;simp only[go_sem,g0,X,F];refine⟨fun ρ H=>∃k:Nat,k<=l.length/\ρ 0=.sl ((p::l).map dA)/\ρ 1=uH 28/\ρ 4=.op Y 0 0/\ρ 5=.op I 0 0/\ρ 6=int (k+1:Nat)/\H Y=some (lL [⟨Sq.cJ,ByteArray.empty⟩])/\H I=some (lL [yY p (l.take k)]),fun ρ _=>l.length+1-aV (ρ 6),⟨0,Xab _,by simp only[go_sem],by simp only[go_sem],by simp only[go_sem],by simp only[go_sem],(by simp only[go_sem];rfl),F,X⟩,?_⟩;rintro ρ H ⟨k,hk,e0,e1,U,V,Z,F,X⟩;simp only[go_sem,e0,e1,U,V,Z,Xaa,Xad];refine aB (fun O=>?_) (fun ac=>?_)
 . have O:k<l.length:=by have:=of_decide_eq_true O;omega
   obtain⟨q,hq⟩:=aN O;have am:(p::l)[k+1]?=some q:=by simpa using hq
   have g1:=aC (f:=dA) hq;have b1:(0:Int)<=((k+1:Nat):Int)/\((k+1:Nat):Int)<((l.length+1:Nat):Int):=by omega
   have hm:=XF (p:=p) hq;have af:okP q:=hr q (List.mem_cons_of_mem _ (Xac hq));have ag:okP (yY p (l.take k)):=agO fun z hz=>by
     rcases Xbe.1 hz with rfl|hz
     . exact hr _ (Xcl ..)
     . exact hr z (List.mem_cons_of_mem _ (List.mem_of_mem_take hz))
   generalize yY p (l.take k)=M at *;simp only[go_sem,e0,e1,U,V,Z,Xaa,Xad];refine gB [I] [(0,true),(1,true),(2,true),(3,true),(4,true),(5,true),(6,false),(7,true)] (by simp[X]) (by kernel_rfl) fun Hp Hr hp hr _ al=>?_
   have ah:=(hp I (by simp)).trans X;simp only[go_sem,e0,e1,U,V,Z,g1,b1,ai,Xaa,Xad,ah];have ad:=C2 q M (GY af) (GY ag);have hd:=FC af ag;refine PC.use ad ?_;simp only[go_sem,e0,e1,U,V,Z];refine oK hr ?_;simp only[go_sem,e0,e1,U,V,Z];refine aB (fun hc=>?_) (fun hc=>?_)
   . have hc:ltP q M=true:=hd.symm.trans hc
     rw[if_pos hc]at hm;simp only[go_sem,e0,e1,U,V,Z,g1,b1,Xaa,Xad];have ne:Y≠I:=E;refine aH X (by simp[kA]) ?_;have aj:aI H I (some (⟨69,8,[dA q++List.drop 8 (dA M)]⟩:Row)) I=some (lL [q]):=by rw[aA,FN,Xai];rfl
     have ak:aI H I (some (⟨69,8,[dA q++List.drop 8 (dA M)]⟩:Row)) Y=some (lL [⟨Sq.cJ,ByteArray.empty⟩]):=(aF _ _ _ _ ne).trans F;simp only[go_sem,e0,e1,U,V,Z,aT (show k+1<=4611686018427387904 by omega)];exact⟨⟨k+1,O,rfl,ak,by rw[hm];exact(aA _ _ _).symm.trans aj⟩,by simp only[aE];omega⟩
   . have hc:ltP q M=false:=hd.symm.trans hc
     rw[if_neg (by rw[hc];simp)]at hm;simp only[go_sem,e0,e1,U,V,Z,aT (show k+1<=4611686018427387904 by omega)];exact⟨⟨k+1,O,rfl,F,by rw[hm];exact X⟩,by simp only[aE];omega⟩
 . have ac:k=l.length:=by have:=of_decide_eq_false ac;omega
   subst ac;rw[Xag]at X;simp only[go_sem,e0,e1,U,V,Z,X];refine aH F (by simp[kA]) ?_;generalize hP:aI _ Y _=HP;replace F:HP Y=some (lL [yY p l]):=by rw[<-hP,aA];rfl
   clear hP;simp only[go_sem,U,F];exact .refl _
theorem OO{x:Instance}{c:Column}{cuts:List Cut}{ds:List Decision}{dual:List ByteArray}(h:(eT x c cuts ds dual).2=0):dI (eT x c cuts ds dual).1=true:=by
 unfold eT at h |-;split at h
 . exact absurd h (by decide)
 split at h
 next h1 h2=>exact absurd h h2
 next h1 h2=>
 rw[if_neg h1,if_neg h2];exact QR h
theorem ahH{x:Instance}{cuts:List Cut}{ds:List Decision}{dual:List ByteArray}{p:Priced}(h:p∈(oU x cuts ds dual).1):p.column∈(dR x ds).1/\p.reduced=(eT x p.column cuts ds dual).1/\(eT x p.column cuts ds dual).2=0:=by
 unfold oU at h;split at h
 . cases h
 split at h
 . cases h
 next h1 h2=>
 obtain⟨c,E,rfl⟩:=Xbd.1 h;exact⟨E,rfl,Dec.vS (Decidable.not_not.1 h2) _ (Xbd.2 ⟨c,E,rfl⟩)⟩
theorem Qn{x:Instance}{cuts:List Cut}{ds:List Decision}{dual:List ByteArray}{p:Priced}(h:p∈(oU x cuts ds dual).1):okP p:=by
 obtain⟨_,h1,E⟩:=ahH h;show dI p.reduced=true;rw[h1];exact OO E
theorem Ox(x:Instance)(cuts:List Cut)(ds:List Decision)(dual:List ByteArray)(E:x.orders.length<=8)(F:x.types.length<=1000):(oU x cuts ds dual).1.length<=256000:=by
 unfold oU;split
 . exact Xab _
 split
 . exact Xab _
 . rw[Xaa]
   exact zH x ds E F
def Ep(x:Instance)(d:Nat)(cuts:List Cut)(ds:List Decision)(dual:List ByteArray):Column×ByteArray×Int:=
 if(rU x d cuts ds dual != 0)=true then(Sq.cJ,emp,rU x d cuts ds dual)
 else if((oU x cuts ds dual).2 != 0)=true then(Sq.cJ,emp,(oU x cuts ds dual).2)
 else match (oU x cuts ds dual).1 with
 | []=>(Sq.cJ,emp,24)
 | p::l=>((yY p l).column,(yY p l).reduced,0)
def FZ(x:Instance)(d:Nat)(cuts:List Cut)(ds:List Decision)(dual:List ByteArray):Prop:=PC prog 25 [.agg (aD x),.sl (cuts.map jM),.sl (ds.map bE),.sl (dual.map Go.Aw.D.gR)] (int (rU x d cuts ds dual))
theorem adZ(x:Instance)(d:Nat)(cuts:List Cut)(ds:List Decision)(dual:List ByteArray)(h:PrOk x d)(hm:MIn x cuts ds)(hq:∀q∈cuts,q.set<=9223372036854775807)(hl:dual.length<=1048576)(hs:∀s∈dual,s.size<=1048576)(hW:FZ x d cuts ds dual):
   PC prog 10 [.agg (aD x),.sl (cuts.map jM),.sl (ds.map bE),.sl (dual.map Go.Aw.D.gR)] (.tup [.agg (aU (Ep x d cuts ds dual).1),str (Ep x d cuts ds dual).2.1,int (Ep x d cuts ds dual).2.2]):=by
 have I:Ep x d cuts ds dual=(if(rU x d cuts ds dual != 0)=true then(Sq.cJ,emp,rU x d cuts ds dual)
   else if((oU x cuts ds dual).2 != 0)=true then(Sq.cJ,emp,(oU x cuts ds dual).2)
   else match (oU x cuts ds dual).1 with
   | []=>(Sq.cJ,emp,24)
   | p::l=>((yY p l).column,(yY p l).reduced,0)):=rfl
 generalize Ep x d cuts ds dual=RP at *;refine pcd Tryz.func10 ?_;unfold Tryz.f10;simp only[gdS];simp only[go_sem];refine aL fun Y ae=>?_
 generalize ab:aI _ Y _=HGj8;have F:HGj8 Y=some (cE [Sq.cJ]):=by rw[<-ab,aA];try rfl
 clear ab ae;simp only[go_sem,F];refine PC.use hW ?_;simp only[go_sem,F];refine aB (fun U=>?_) (fun U=>?_)
 . rw[if_pos U]at I
   simp only[go_sem,F];refine aH F (by simp only[go_sem]) ?_;generalize I:aI _ Y _=HP;replace F:HP Y=some (cE [Sq.cJ]):=by rw[<-I,aA];rfl
   clear I;simp only[go_sem,F];rw[I];exact .refl _
 rw[if_neg (by rw[U];simp)]at I;have ah:CutsB cuts:=⟨fun q af=>⟨Gp (EP (by simpa using U) q af),hq q af⟩⟩;have ad:∀p∈(oU x cuts ds dual).1,okP p:=fun p hp=>Qn hp
 have aa:=Ox x cuts ds dual h.n8 h.ty;simp only[go_sem,F];refine PC.use (Sq.NC.pc2 (YS x d cuts ds dual h hm ah hl hs)) ?_;generalize oU x cuts ds dual=A at *;obtain⟨A,e⟩:=A;simp only at I ad aa;simp only[go_sem,F];refine aB (fun U=>?_) (fun U=>?_)
 . rw[if_pos U]at I
   simp only[go_sem,F];refine aH F (by simp only[go_sem]) ?_;generalize I:aI _ Y _=HP;replace F:HP Y=some (cE [Sq.cJ]):=by rw[<-I,aA];rfl
   clear I;simp only[go_sem,F];rw[I];exact .refl _
 rw[if_neg (by rw[U];simp)]at I;simp only[go_sem,F,Xaa];refine aB (fun U=>?_) (fun U=>?_)
 . have h0:A.length=0:=by simpa using U
   obtain rfl:=Xcj.1 h0;simp only[go_sem,F];refine aH F (by simp only[go_sem]) ?_;generalize I:aI _ Y _=HP;replace F:HP Y=some (cE [Sq.cJ]):=by rw[<-I,aA];rfl
   clear I;simp only[go_sem,F];rw[I];exact .refl _
 have h0:A.length≠0:=by simpa using U
 obtain⟨p,l,rfl⟩:∃p l,A=p::l:=by
   cases A with
   | nil=>exact absurd rfl h0
   | cons p l=>exact⟨p,l,rfl⟩
 simp only at I;have ag:=Wp p l (by simp at aa;omega) ad;generalize yY p l=M at *;simp only[go_sem,F];refine PC.use ag ?_;simp only[go_sem,F];refine aL fun O X=>?_
 have E:Y≠O:=aP F X;simp only[go_sem,F];refine aH (aA _ _ _) (by simp[kA]) ?_;generalize J:aI (aI _ O _) O _=HGi14;replace F:=kpR J E E F;have ac:HGi14 O=some (lL [M]):=by rw[<-J,aA];try rfl
 clear J X;simp only[go_sem,ac,F];refine gB [O] [(0,true),(1,true),(2,true),(3,true),(4,false),(5,true),(6,true)] (by simp[ac]) (by kernel_rfl) fun Hp Hr hp hr _ ai=>?_
 have V:=(hp O (by simp)).trans ac;have Z:=(hr Y (by simp[E])).trans F;simp only[go_sem,V,Z];refine aH Z (by simp[cA]) ?_;simp only[go_sem,V];refine qU hr (by simpa using E) ?_;simp only[go_sem,aA];rw[I];exact .refl _
def QM(x:Instance)(d:Nat)(cuts:List Cut)(ds:List Decision)(dual:List ByteArray)(most:Int):List Column×Int:=
 if(rU x d cuts ds dual != 0)=true then([],rU x d cuts ds dual)
 else if(decide (most<1)||decide (most>8192))=true then([],2)
 else if((oU x cuts ds dual).2 != 0)=true then([],(oU x cuts ds dual).2)
 else(((aoD (oU x cuts ds dual).1).take most.toNat).map (·.column),0)
theorem OW{S:List Priced}{k m:Nat}(h:∀p∈S.take k,Ht p=true)(U:k<=S.length)(E:m=k\/(k<=m/\∀p,S[k]?=some p->Ht p=false)):(S.takeWhile Ht).take m=S.take k:=by
 rw[Sq.UV (k:=k) h];have O:(S.take k).length=k:=by rw[Xao];omega
 rcases E with rfl|⟨E,F⟩
 . rw[List.take_append_of_le_length (by omega),Xap (by omega)]
 . have : (S.drop k).takeWhile Ht = [] := by
     cases J:S.drop k with
     | nil=>rfl
     | cons p r=>
       have I:S[k]?=some p:=by
         have:=congrArg (fun l:List Priced=>l[0]?) J;simpa using this
       rw[Xbp,F p I];rfl
   rw[this,Xai,Xap (by omega)]
theorem aaY{s:ByteArray}(h:dI s=true):decide (Kw s>=0)= !decide (rK s<0):=by
 unfold Kw;rw[if_pos h,<-V7];unfold Qz;by_cases E:rK s<0
 . rw[if_pos E,decide_eq_true E];rfl
 . rw[if_neg E,decide_eq_false E]
   split <;> rfl
theorem acA(L:List Priced)(p:Priced):(⟨43,7,(L.map (·.column)).map aU++[aU p.column]⟩:Row)=cE ((L++[p]).map (·.column)):=by
 rw[Sq.GS,Xar];rfl
def UJ(A:List Priced):Prop:=∀(j:Nat) (H0:aK) (K:AV->aK->Prop),H0 j=some (lL A)->(∀r,K r (aI H0 j (some (lL (BB ltP A)))))->bF prog 32 [.os j,uH 28] H0 K
theorem aoZ(x:Instance)(d:Nat)(cuts:List Cut)(ds:List Decision)(dual:List ByteArray)(most:Int)(h:PrOk x d)(hm:MIn x cuts ds)(hq:∀q∈cuts,q.set<=9223372036854775807)(hl:dual.length<=1048576)(hs:∀s∈dual,s.size<=1048576)(hW:FZ x d cuts ds dual)(hS:UJ (oU x cuts ds dual).1):
   PC prog 13 [.agg (aD x),.sl (cuts.map jM),.sl (ds.map bE),.sl (dual.map Go.Aw.D.gR),int most] (.tup [.sl ((QM x d cuts ds dual most).1.map aU),int (QM x d cuts ds dual most).2]):=by
 have hP:QM x d cuts ds dual most=(if(rU x d cuts ds dual != 0)=true then([],rU x d cuts ds dual)
   else if(decide (most<1)||decide (most>8192))=true then([],2)
   else if((oU x cuts ds dual).2 != 0)=true then([],(oU x cuts ds dual).2)
   else(((aoD (oU x cuts ds dual).1).take most.toNat).map (·.column),0)):=rfl
 generalize QM x d cuts ds dual most=RP at *;refine pcb (fun t=>t == 15) Tryz.func13 ?_;unfold Tryz.f13;simp only[gdS];simp only[go_sem];refine PC.use hW ?_;simp only[go_sem];refine aB (fun hb=>?_) (fun hb=>?_)
 . rw[if_pos hb]at hP
   simp only[go_sem];rw[hP];exact .refl _
 rw[if_neg (by rw[hb];simp)]at hP;have au:CutsB cuts:=⟨fun q aq=>⟨Gp (EP (by simpa using hb) q aq),hq q aq⟩⟩;have an:∀p∈(oU x cuts ds dual).1,okP p:=fun p hp=>Qn hp
 have ak:=Ox x cuts ds dual h.n8 h.ty;simp only[go_sem];refine aB (fun hb=>?_) (fun hb=>?_)
 . rw[if_pos hb]at hP
   simp only[go_sem];rw[hP];exact .refl _
 have a4:1<=most/\most<=8192:=by
   simp only[Xaf,decide_eq_false_iff_not]at hb;omega
 rw[if_neg (by rw[hb];simp)]at hP;simp only[go_sem];refine NC.use (YS x d cuts ds dual h hm au hl hs) fun j1 az=>?_
 generalize oU x cuts ds dual=A at *;obtain⟨A,e⟩:=A;simp only at hP an ak hS;simp only[go_sem];refine aB (fun hb=>?_) (fun hb=>?_)
 . rw[if_pos hb]at hP
   simp only[go_sem];rw[hP];exact .refl _
 rw[if_neg (by rw[hb];simp)]at hP;have R1:aI bV j1 (some (lL A)) j1=some (lL A):=aA _ _ _;simp only[go_sem];refine hS j1 _ _ R1 fun r=>?_
 rw[QP];have R1:aI bV j1 (some (lL (BB ltP A))) j1=some (lL (BB ltP A)):=aA _ _ _;generalize aI bV j1 (some (lL (BB ltP A)))=H1 at *;have aw:∀p∈BB ltP A,okP p:=fun p hp=>an p ((Gh A).mem_iff.1 hp)
 have a5:(BB ltP A).length=A.length:=(Gh A).length_eq;unfold aoD at hP;generalize BB ltP A=S at *;simp only[go_sem];refine aL fun ae ab=>?_
 have Z:j1≠ae:=aP R1 ab;generalize Y:aI _ ae _=HGj15;replace R1:=(congrFun Y.symm j1).trans ((aF _ _ _ _ Z).trans R1);have al:HGj15 ae=some (cE []):=by rw[<-Y,aA];try rfl
 clear Y ab;simp only[go_sem,al,R1];refine⟨fun ρ H=>∃(k:Nat) (j:Nat),k<=S.length/\ρ 4=int most/\ρ 45=.os j1/\ρ 46=int (S.length:Nat)/\ρ 47=int k/\ρ 15=.os j/\H j=some (cE ((S.take k).map (·.column)))/\H j1=some (lL S)/\(∀p∈S.take k,Ht p=true)/\k<=most.toNat,fun ρ _=>S.length-aV (ρ 47),⟨0,ae,Xab _,by simp only[go_sem],by simp only[go_sem],by simp only[go_sem,Xaa],(by simp only[go_sem];rfl),by simp only[go_sem],al,R1,by simp,Xab _⟩,?_⟩;rintro ρ H ⟨k,j,hk,e4,V,O,J,I,R,RS,hz,ag⟩;simp only[go_sem,e4,V,O,J,I];refine aB (fun aa=>?_) (fun af=>?_)
 . have aa:=ltB (by simpa using aa)
   obtain⟨p,hp⟩:=aN aa;have b1:=inB aa;have ah:=aw p (Xac hp);have ar:=aaY ah;have a0:((S.take k).map (·.column)).length=k:=by rw[Xaa,Xao];omega
   have av:S.take (k+1)=S.take k++[p]:=bQ hp;simp only[go_sem,e4,V,O,J,I,RS,aC hp,b1,Xaa];refine⟨aa,?_⟩;refine aL fun ad X=>?_
   have F:j≠ad:=aP R X;have E:j1≠ad:=aP RS X;simp only[go_sem,e4,V,O,J,I,R,RS];refine aH (aA _ _ _) (by simp[kA]) ?_;generalize U:aI (aI _ ad _) ad _=HGi17;replace R:=kpR U F F R;replace RS:=kpR U E E RS;have aj:HGi17 ad=some (lL [p]):=by rw[<-U,aA];try rfl
   clear U X;simp only[go_sem,e4,V,O,J,I,aj,R,RS];refine PC.use (adW p.reduced (GY ah)) ?_;simp only[go_sem,e4,V,O,J,I,R,Xaa];have ao:((S.take k).length:Int)=(k:Int):=by rw[Xao];omega
   refine aB (fun hc=>?_) (fun hc=>?_)
   . have ac : (S.takeWhile Ht).take most.toNat = S.take k := OW hz hk (by
       by_cases hn:Ht p=true
       . left
         have e1:decide (Kw p.reduced>=0)=false:=by rw[ar,show decide (rK p.reduced<0)=true from hn];rfl
         rw[e1,Xbm]at hc;have:((S.take k).length:Int)=most:=by simpa using hc
         omega
       . right
         refine⟨ag,fun p' ap=>?_⟩;rw[hp]at ap;obtain rfl:=Option.some.inj ap;simpa using hn)
     simp only[go_sem,e4,V,O,J,I];rw[hP,ac];exact .tup _ _ (.cons _ _ _ _ (.row _ _ _ R (ConvE.refl _)) (ConvL.refl _))
   rw[ar]at hc;simp only[Xaf,Xcg]at hc;have hn:Ht p=true:=hc.1;have ay:¬(k:Int)=most:=by have:=hc.2;rw[ao]at this;simpa using this
   simp only[go_sem,e4,V,O,J,I,aj];refine aZ R ⟨rfl,rfl⟩ (by simp only[go_sem]) (by simp only[Xaa,Xae,Xad,List.length_nil,Xao];omega) (fun j2 am=>?_);have ax:j1≠j2:=fun e=>by rw[<-e,RS]at am;cases am
   have ai:j1≠j:=fun e=>by rw[e,R]at RS;cases RS
   simp only[go_sem,e4,V,O,J,I,aT (show k<=4611686018427387904 by omega)];refine⟨⟨k+1,j2,aa,rfl,rfl,?_,?_,?_,by omega⟩,by simp only[aE];omega⟩
   . rw[av,aA]
     exact congrArg some (acA _ _)
   . rw[aF _ _ _ _ ax,aF _ _ _ _ ai];exact RS
   . exact Mv.aM (p:=fun p=>Ht p=true) hp hn hz
 have af:=geB hk (by simpa using af);subst af;have ac:(S.takeWhile Ht).take most.toNat=S.take S.length:=OW hz (Xah _) (.inr ⟨ag,fun p hp=>by
   rw[List.getElem?_eq_none (Xah _)]at hp;cases hp⟩)
 simp only[go_sem,e4,V,O,J,I];rw[hP,ac];exact .tup _ _ (.cons _ _ _ _ (.row _ _ _ R (ConvE.refl _)) (ConvL.refl _))
def exO:Order:=⟨⟨#[111,97]⟩,[1],⟨-1,0,0,0⟩,⟨1,0,50,0⟩,0,0,1,-1,-1,false⟩
def exT:VType:=⟨⟨#[118,97,110]⟩,1,0,0,[5],0,0,0,1000,1000,0,5,1,0⟩
def exN:Network:=⟨[⟨#[104,117,98]⟩,⟨#[97,115,104]⟩],[⟨0,1,0,10,[⟨0,20⟩],[]⟩,⟨1,0,0,10,[⟨0,20⟩],[]⟩]⟩
def exX:Instance:=⟨exN,[exT],[exO],[],[]⟩
def exD:List ByteArray:=[zed 419430410,⟨#[48]⟩]
def exC:Column:=(Ep exX 1 [] [] exD).1
theorem Ma:(Ep exX 1 [] [] exD).2=(⟨#[45,49,48]⟩,0)/\exC.set=1/\exC.price=419430400:=by decide +kernel
theorem X4:(QM exX 1 [] [] exD 5).2=0/\(QM exX 1 [] [] exD 5).1.length=1:=by decide +kernel
theorem GN:(dR exX []).2=0/\(dR exX []).1.length=1:=by decide +kernel
theorem XY:LoadsOk exX 1 where
 dims:=by decide
 orders:=by decide
 types:=by decide
 load:=by
   intro o E;simp[exX,exO]at E;subst E;simp
 cap:=by
   intro t F;simp[exX,exT]at F;subst F;simp
theorem aoR:Sq.NetOk exN where
 arcs:=by decide
 travel:=by
   intro a E;simp[exN]at E;rcases E with rfl|rfl <;> decide +kernel
 slow:=by
   intro a E;simp[exN]at E;rcases E with rfl|rfl <;> decide
theorem acS:PrOk exX 1 where
 ev:=⟨aoR,⟨by decide,by intro o E;simp[exX,exO]at E;subst E;rfl,by decide⟩,by decide,by decide⟩
 n8:=by decide
 ty:=by decide
 lo:=XY
 ne:=by simp[exX]
theorem Cc:PC prog 24 [] (.agg (aD exX)):=by
 refine pcd Tryz.func24 ?_;unfold Tryz.f24;simp only[gdS];simp only[go_sem];refine aL fun i0 ae=>?_
 generalize ac:aI _ i0 _=HGi0;have V:HGi0 i0=some (insR ⟨⟨[],[]⟩,[],[],[],[]⟩):=by rw[<-ac,aA];try rfl
 clear ac ae;simp only[go_sem,V];refine aL fun i2 ad=>?_
 have U:i0≠i2:=aP V ad;simp only[go_sem,V];refine aH (aA _ _ _) (by simp) ?_;generalize ab:aI (aI _ i2 _) i2 _=HGi2;replace V:=kpR ab U U V;have R2:HGi2 i2=some (⟨25,2,[aY exN]⟩):=by rw[<-ab,aA];try rfl
 clear ab ad;simp only[go_sem,R2,V];refine aL fun i3 aa=>?_
 have J:i0≠i3:=aP V aa;have O:i2≠i3:=aP R2 aa;simp only[go_sem,V,R2];refine aH (aA _ _ _) (by simp) ?_;generalize Z:aI (aI _ i3 _) i3 _=HGi3;replace V:=kpR Z J J V;replace R2:=kpR Z O O R2;have R3:HGi3 i3=some (ordR exO):=by rw[<-Z,aA];try rfl
 clear Z aa;simp only[go_sem,R3,V,R2];refine aL fun i4 Y=>?_
 have I:i0≠i4:=aP V Y;have E:i2≠i4:=aP R2 Y;have F:i3≠i4:=aP R3 Y;simp only[go_sem,V,R2,R3];refine aH (aA _ _ _) (by simp) ?_;generalize X:aI (aI _ i4 _) i4 _=HGi4;replace V:=kpR X I I V;replace R2:=kpR X E E R2;replace R3:=kpR X F F R3;have R4:HGi4 i4=some (arI exT):=by rw[<-X,aA];try rfl
 clear X Y;simp only[go_sem,R4,V,R2,R3];refine aH V (by simp;decide) ?_;simp only[go_sem];exact .refl _
theorem Ye(hW:FZ exX 1 [] [] exD)(V:UJ (oU exX [] [] exD).1):PC prog 9 [] (boo true):=by
 have hM:MIn exX [] []:=⟨by decide,by decide,by decide,by decide⟩;have hs:∀s∈exD,s.size<=1048576:=by decide +kernel
 have Z:=adZ exX 1 [] [] exD acS hM (fun q X=>by cases X) (by decide) hs hW;rw[show Ep exX 1 [] [] exD=(exC,⟨#[45,49,48]⟩,0)from Prod.ext rfl Ma.1]at Z;have hn:=aoZ exX 1 [] [] exD 5 acS hM (fun q X=>by cases X) (by decide) hs hW V;have ha:=Sq.NC.pc2 (D6 exX 1 [] acS (by decide));rw[GN.1]at ha;rw[X4.1]at hn;have I:=X4.2;have U:=GN.2;have Y:=Ma.2.1;have O:=Ma.2.2;generalize (QM exX 1 [] [] exD 5).1=NL at *;generalize (dR exX []).1=AL at *;generalize exC=c at *;refine pcd Tryz.func9 ?_;unfold Tryz.f9;simp only[gdS];simp only[go_sem];refine PC.use (Ez 419430410 (by decide) (by decide)) ?_;simp only[go_sem];refine PC.use Cc ?_;simp only[go_sem];refine PC.use Z ?_;simp only[go_sem];refine aL fun J F=>?_
 simp only[go_sem];refine aH (aA _ _ _) (by simp[cA]) ?_;generalize E:aI (aI _ J _) J _=HGi3;have R3:HGi3 J=some (cE [c]):=by rw[<-E,aA];try rfl
 clear E F;simp only[go_sem,R3];refine PC.use Cc ?_;simp only[go_sem];refine PC.use hn ?_;simp only[go_sem];refine PC.use Cc ?_;simp only[go_sem];refine PC.use ha ?_;simp only[go_sem,R3,Xaa,Y,O,I,U];exact cB (a:=true) (by rfl)
end Nu.Ps
namespace Nu.Ps
open Go.Proofs.Tryz(prog)
open Go.Nu Go.So
open Dec (mP dT eY dY uG lQ)
open Sq (EvalB BestQ sO nT cE eK fI)
theorem aiX{x:Instance}(h:Acc x)(V:x.orders.length<=8):PrOk x (jI x.types).toNat:=by
 obtain⟨E,F⟩:=Tp h;have h1:=h.arcs;have Y:=h.types;have h3:=h.apart;have Z:=h.before;refine⟨⟨⟨by omega,fun a I=>(h.arc a I).travel,fun a I=>by have:=(h.arc a I).slow;omega⟩,?_,by omega,by omega⟩,V,by omega,E,F⟩;obtain⟨t,r,J⟩:=List.exists_cons_of_ne_nil F;have O:fI x=(t.cap.length:Nat):=by unfold fI;rw[J];rfl
 have hc:=(E.cap t (by rw[J];exact Xcl)).1;have X:=E.dims;exact⟨by rw[O];omega,fun o U=>by rw[O,(E.load o U).1];omega,by omega⟩
def O6(a:Ask3):Bool:=(((((decide ((a.x.orders.length:Int)>3)||decide ((a.x.types.length:Int)>3))||decide ((a.cuts.length:Int)>8))||decide ((a.d.length:Int)>8))||decide ((a.dual.length:Int)>40))||decide (((qQ a.x).length:Int)>0))
def ME(a:Ask3):Bool:= !O6 a&&a.dual.all fun s=> !decide ((s.size:Int)>60)
theorem aiT{a:Ask3}(h:ME a=true):Acc a.x/\a.x.orders.length<=3/\a.x.types.length<=3/\a.cuts.length<=8/\a.d.length<=8/\a.dual.length<=40/\∀s∈a.dual,s.size<=60:=by
 unfold ME O6 at h;simp only[Xak,Xbb,Xaf,decide_eq_false_iff_not,Xaj]at h;obtain⟨⟨⟨⟨⟨⟨h1,O⟩,U⟩,V⟩,J⟩,I⟩,F⟩:=h;refine⟨Lb (Xcj.1 (by omega)),by omega,by omega,by omega,by omega,by omega,fun s E=>?_⟩;have:=F s E;omega
theorem aAz(a:Ask3)(hx:InB a.x)(hl:a.dual.length<=1048576):PC prog 8 [.agg (jF a)] (boo (ME a)):=by
 refine pcd Tryz.func8 ?_;unfold Tryz.f8;simp only[gdS];simp only[go_sem];refine⟨_,fun _=>(NC.pc (afF a.x hx)).qn,?_⟩;simp only[go_sem,Xaa];refine aB (fun F=>?_) (fun F=>?_)
 . have F:O6 a=true:=F
   simp only[go_sem];refine cB ?_;unfold ME;rw[F];rfl
 have F:O6 a=false:=F;have Y:ME a=a.dual.all fun s=> !decide ((s.size:Int)>60):=by unfold ME;rw[F];rfl
 rw[Y];simp only[go_sem];refine⟨fun ρ H=>∃(k:Nat),k<=a.dual.length/\ρ 1=.rp (jF a) 0/\ρ 3=int k/\(∀s∈a.dual.take k,decide ((s.size:Int)>60)=false),fun ρ _=>a.dual.length-aV (ρ 3),⟨0,Xab _,by simp only[go_sem],(by simp only[go_sem];rfl),by simp⟩,?_⟩;rintro ρ H ⟨k,hk,V,U,X⟩;simp only[go_sem,V,U];refine aB (fun E=>?_) (fun I=>?_)
 . have E:=ltB (by simpa using E)
   obtain⟨s,J⟩:=aN E;have Z:=inB E;simp only[go_sem,V,U,aC J,Z];refine aB (fun O=>?_) (fun O=>?_)
   . simp only[go_sem]
     refine cB ?_;exact(List.all_eq_false.2 ⟨s,Xac J,by
       have O:decide ((s.size:Int)>60)=true:=O;rw[O];simp⟩).symm
   . simp only[go_sem,V,U,aT (show k<=4611686018427387904 by omega)]
     exact⟨⟨k+1,E,rfl,sW (p:=fun s:ByteArray=>decide ((s.size:Int)>60)=false) J O X⟩,by simp only[aE];omega⟩
 have I:=geB hk (by simpa using I);subst I;rw[Xag]at X;simp only[go_sem,V,U];exact cB (Xaj.2 fun s J=>by rw[X s J];rfl).symm
theorem Pc(l:List Visit)(Z:l.length<=1048576):PC prog 31 [.sl (l.map aJ),.sl (l.map aJ)] (boo true):=by
 refine pcd Tryz.func31 ?_;unfold Tryz.f31;simp only[gdS];simp only[go_sem];refine aB (fun U=>absurd U (by simp)) (fun _=>?_);simp only[go_sem];refine⟨fun ρ H=>∃(k:Nat),k<=l.length/\ρ 0=.sl (l.map aJ)/\ρ 1=.sl (l.map aJ)/\ρ 5=int k,fun ρ _=>l.length-aV (ρ 5),⟨0,Xab _,by simp only[go_sem],by simp only[go_sem],(by simp only[go_sem];rfl)⟩,?_⟩;rintro ρ H ⟨k,hk,J,I,F⟩;simp only[go_sem,J,I,F];refine aB (fun E=>?_) (fun V=>?_)
 . have E:=ltB (by simpa using E)
   obtain⟨v,Y⟩:=aN E;have X:=inB E;simp only[go_sem,J,I,F];refine cN (by rfl) (by kernel_rfl) ?_;simp only[go_sem,J,I,F,aC Y,X,Xaa];refine aB (fun O=>?_) (fun O=>?_)
   . exact absurd O (by simp)
   . simp only[go_sem,J,I,F,aT (show k<=4611686018427387904 by omega)]
     exact⟨⟨k+1,E,rfl⟩,by simp only[aE];omega⟩
 simp only[go_sem];exact .refl _
theorem PB(c:Column)(h1:c.route.rests.length<=1048576)(V:c.route.visits.length<=1048576):PC prog 12 [.agg (aU c),.agg (aU c)] (boo true):=by
 refine pcd Tryz.func12 ?_;unfold Tryz.f12;simp only[gdS];simp only[go_sem];refine aB (fun U=>absurd U (by simp)) (fun _=>?_);simp only[go_sem];refine⟨fun ρ H=>∃(k:Nat),k<=c.route.rests.length/\ρ 2=.rp (aU c) 0/\ρ 3=.rp (aU c) 0/\ρ 5=int k,fun ρ _=>c.route.rests.length-aV (ρ 5),⟨0,Xab _,by simp only[go_sem],by simp only[go_sem],(by simp only[go_sem];rfl)⟩,?_⟩;rintro ρ H ⟨k,hk,J,I,F⟩;simp only[go_sem,J,I,F];refine aB (fun E=>?_) (fun Y=>?_)
 . have E:=ltB (by simpa using E)
   obtain⟨v,X⟩:=aN E;have Z:=inB E;simp only[go_sem,J,I,F];refine cN (by rfl) (by kernel_rfl) ?_;simp only[go_sem,J,I,F,aC X,Z,Xaa];refine aB (fun O=>?_) (fun O=>?_)
   . exact absurd O (by simp)
   . simp only[go_sem,J,I,F,aT (show k<=4611686018427387904 by omega)]
     exact⟨⟨k+1,E,rfl⟩,by simp only[aE];omega⟩
 simp only[go_sem,J,I,F];refine PC.use (Pc c.route.visits V) ?_;simp only[go_sem];exact .refl _
end Nu.Ps
namespace Rx
open Sq
open Go.Nu
def Dis:List Visit->Prop
 | []=>True
 | v::l=>¬v∈l/\Dis l
theorem TP:∀(l U:List Visit),Dis l->(∀v∈l,v∈U)->l.length<=U.length
 | [],U,_,_=>Xab _
 | v::l,U,hd,hs=>by
   obtain⟨a,b,rfl⟩:=List.append_of_mem (hs v (by simp));have:=TP l (a++b) hd.2 fun u E=>by
     have:=hs u (by simp[E]);rcases Xau.1 this with h|h
     . exact Xbn _ h
     . rcases Xbe.1 h with rfl|h
       . exact absurd E hd.1
       . exact List.mem_append_right _ h
   simp only[Xae,Xad]at this |-;omega
def zY(f:Visit->Rat):List Visit->Rat
 | []=>0
 | v::l=>f v+zY f l
theorem Bn(f:Visit->Rat)(v:Visit)(l:List Visit):zY f (v::l)=f v+zY f l:=rfl
theorem FP(f:Visit->Rat):∀a b:List Visit,zY f (a++b)=zY f a+zY f b
 | [],b=>(Rat.zero_add _).symm
 | v::a,b=>by
   rw[List.cons_append,Bn,Bn,FP f a b,Rat.add_assoc]
theorem UT(f:Visit->Rat):∀(l U:List Visit),Dis l->(∀v∈l,v∈U)->l.length=U.length->zY f l=zY f U/\∀v∈U,v∈l
 | [],U,_,_,h=>by
   have:U=[]:=Xcj.1 h.symm;subst this;exact⟨rfl,fun v J=>J⟩
 | v::l,U,hd,hs,h=>by
   obtain⟨a,b,rfl⟩:=List.append_of_mem (hs v (by simp));have F:∀u∈l,u∈a++b:=fun u E=>by
     have:=hs u (by simp[E]);rcases Xau.1 this with h|h
     . exact Xbn _ h
     . rcases Xbe.1 h with rfl|h
       . exact absurd E hd.1
       . exact List.mem_append_right _ h
   obtain⟨h1,I⟩:=UT f l (a++b) hd.2 F (by simp only[Xae,Xad]at h |-;omega);rw[FP]at h1;refine⟨?_,fun u E=>?_⟩
   . rw[FP,Bn,Bn,h1]
     generalize zY f a=x;generalize zY f b=y;generalize f v=z
     grind
   . rcases Xau.1 E with E|E
     . exact List.mem_cons_of_mem _ (I u (Xbn _ E))
     . rcases Xbe.1 E with rfl|E
       . exact Xcl
       . exact List.mem_cons_of_mem _ (I u (List.mem_append_right _ E))
theorem aoH{l:List Visit}(h:∀j v,l[j]?=some v->¬v∈l.take j):Dis l:=by
 suffices ∀(b a:List Visit),(∀j v,(a++b)[j]?=some v->¬v∈(a++b).take j)->Dis b from this l [] (by simpa using h)
 intro b;induction b with
 | nil=>intro a _;trivial
 | cons v b ih=>
   intro a h;refine⟨fun E=>?_,ih (a++[v]) (by simpa using h)⟩;obtain⟨c,d,rfl⟩:=List.append_of_mem E;have:=h (a.length+1+c.length) v (by
     rw[show a++v::(c++v::d)=(a++v::c)++v::d by simp,List.getElem?_append_right (by simp;omega)];simp only[Xae,Xad];rw[show a.length+1+c.length-(a.length+(c.length+1))=0 by omega];rfl)
   refine this ?_;rw[show a++v::(c++v::d)=(a++v::c)++v::d by simp,List.take_append_of_le_length (by simp;omega),Xap (by simp;omega)];simp
theorem Gm{v u:Visit}:mV v u=true↔u=v:=by
 unfold mV;obtain⟨a,b⟩:=v;obtain⟨c,d⟩:=u;simp
theorem afL{l:List Visit}{v:Visit}(h:¬v∈l):bD l v= -1:=by
 unfold bD;refine jP (fun y E=>?_) 0;rw[Xcp];intro F;rw[Gm.1 F]at E;exact h E
theorem Yq{l:List Visit}{v:Visit}{j:Nat}(h:l[j]?=some v)(F:¬v∈l.take j):bD l v=j:=by
 unfold bD;rw[kW (k:=j) (fun y E=>?_) h (Gm.2 rfl) 0]
 . omega
 . rw[Xcp]
   intro I;rw[Gm.1 I]at E;exact F E
theorem GX{v:Visit}:∀{l:List Visit},v∈l->∃j,l[j]?=some v/\¬v∈l.take j
 | u::l,h=>by
   by_cases e:v=u
   . subst e
     exact⟨0,rfl,by simp⟩
   . have h : v ∈ l := by
       rcases Xbe.1 h with h|h
       . exact absurd h e
       . exact h
     obtain⟨j,h1,F⟩:=GX h;refine⟨j+1,h1,fun E=>?_⟩;rw[List.take_succ_cons]at E;rcases Xbe.1 E with E|E
     . exact e E
     . exact F E
theorem LZ{l:List Visit}{v:Visit}(h:bD l v>=0):v∈l:=by
 false_or_by_contra
 rename_i E
 rw[afL E]at h;omega
structure SeqB(x:Instance)(l:List Visit):Prop where
 ne:l≠[]
 vis:∀v∈l,Vis x v
 twice:∀j v,l[j]?=some v->¬v∈l.take j
 pair:∀i,i<x.orders.length->Bx (dB x i)=true->∀d,(⟨(i:Nat),d⟩:Visit)∈l->(⟨(i:Nat),false⟩:Visit)∈l/\(⟨(i:Nat),true⟩:Visit)∈l/\bD l ⟨(i:Nat),false⟩<bD l ⟨(i:Nat),true⟩
theorem Eb{O:Order}{i:Nat}(h:Bx O=true):gC O (i:Nat)=[⟨(i:Nat),false⟩,⟨(i:Nat),true⟩]:=by
 unfold Bx at h;rw[Xak]at h;unfold gC;rw[if_pos h.1,if_pos h.2];rfl
theorem Wz{x:Instance}{l:List Visit}(h:pU x l=0):SeqB x l:=by
 unfold pU at h;split at h
 . cases h
 next V=>
 split at h
 . cases h
 next c2=>
 split at h
 . cases h
 next c3=>
 split at h
 . cases h
 next J=>
 clear h;simp only[Xbq,not_or,Xba,Xan,not_exists,not_and,Xcd]at V c2 c3;have J:l.all (uU x.orders l)=true:=by simpa using J
 rw[Xaj]at J;have Y:∀j v,l[j]?=some v->¬v∈l.take j:=fun j v hj O=>by
   have Z:=(List.getElem?_eq_some_iff.1 hj).1;have:=c3 j (Xam.2 Z);unfold pO at this;rw[decide_eq_false_iff_not]at this;refine this ?_;rw[List.getD,hj];obtain⟨i,h1,h2⟩:=GX O;show bD (l.take j) v>=0;rw[Yq h1 h2];omega
 have I:∀v∈l,∃i:Nat,v.order=(i:Nat)/\i<x.orders.length:=fun v F=>by
   have:=V.2 v F;simp only[cC,Xaf,decide_eq_false_iff_not]at this;exact⟨v.order.toNat,by omega,by omega⟩
 refine⟨fun e=>V.1 (by rw[e];rfl),fun v F=>?_,Y,fun i hi hb d F=>?_⟩
 . obtain⟨i,e,hi⟩:=I v F
   have E:=J v F;unfold uU at E;rw[Xak]at E;have O:v∈fC x.orders v.order:=by
     have:=E.1;unfold inV at this;exact LZ (of_decide_eq_true this)
   rw[e,Bh hi]at O;obtain⟨d,e2,U⟩:=aeA O;refine⟨i,d,e2,hi,U,?_⟩;have:=c2 v F;unfold tW at this;rw[e,Xaq,fZ hi]at this;simpa using this
 . have E:=J _ F
   unfold uU at E;rw[Xak]at E;have X:=E.2;rw[Bh hi,Eb hb]at X;simp only[pC,Xak,decide_eq_true_eq,Xbo]at X;obtain⟨q1,q2⟩:=X;exact⟨LZ (by omega),LZ (by omega),q2⟩
section
variable{x:Instance}{l:List Visit}{i j:Nat}{d:Bool}
end
end Rx
namespace Rx
open Sq
open Go.Nu
def aAl(f:Int->Int):List Int->Int
 | []=>0
 | i::M=>f i+aAl f M
def auI(x:Instance)(i:Nat):Bool:=decide ((dB x i).pick.place<0)
def aAw(l:List Visit)(j:Nat)(i:Int):Bool:=(l.take j).any fun u=>mV ⟨i,true⟩ u
def atC(x:Instance)(c:Nat)(i:Int):Int:=if auI x i.toNat=true then(dB x i.toNat).load.getD c 0 else 0
def aA8(x:Instance)(l:List Visit)(j c:Nat)(i:Int):Int:=if aAw l j i=true then 0 else atC x c i
def remJ(x:Instance)(l:List Visit)(j c:Nat):Int:=aAl (aA8 x l j c) (Sq.gZ (cK l).1)
section
variable{x:Instance}{k:Nat}{near:List Int}{l:List Visit}{j c i:Nat}{d:Bool}
structure LdJ(x:Instance)(l:List Visit)(j:Nat)(ld:List Int):Prop where
 len:ld.length=ayX x
 le:∀c,ld.getD c 0+remJ x l j c<=(Ci x l j).getD c 0
end
end Rx
namespace Rx
open Sq
open Go.Nu
def plJ(x:Instance)(t:VType)(l:List Visit)(j:Nat):Int:=qR t (fB x l) j
def miJ(x:Instance)(t:VType)(l:List Visit):Nat->Int
 | 0=>0
 | j+1=>miJ x t l j+mil x.net t (plJ x t l j) (plJ x t l (j+1))
def vJ(l:List Visit)(j:Nat):Visit:=l.getD j ⟨0,false⟩
def stJ(x:Instance)(l:List Visit)(j:Nat):Bool:=Fm (dB x (vJ l j).order.toNat) (vJ l j).drop
def mvJ(x:Instance)(k:Nat)(l:List Visit):Nat->Int
 | 0=>0
 | j+1=>mvJ x k l j+if stJ x l j=true then Vf (dB x (vJ l j).order.toNat).now k else 0
def otJ(x:Instance)(k:Nat)(l:List Visit):Nat->Int
 | 0=>0
 | j+1=>otJ x k l j+if stJ x l j=true then Vf (dB x (vJ l j).order.toNat).last k else 0
def duJ(x:Instance)(du:Option (List ByteArray))(l:List Visit):Nat->Rat
 | 0=>0
 | j+1=>duJ x du l j+if stJ x l j=true then duV du (vJ l j).order.toNat else 0
def vlJ(x:Instance)(k:Nat)(du:Option (List ByteArray))(l:List Visit)(j:Nat):Rat:=
 (((lR x k).perMile*miJ x (lR x k) l j*16777216+(mvJ x k l j*16+otJ x k l j)*65536:Int):Rat)-duJ x du l j
section
variable{x:Instance}{k:Nat}{near:List Int}{du:Option (List ByteArray)}{dl:List ByteArray}{M:Nat}{p:Part}{q:RP}{l:List Visit}{r:Route}{i j:Nat}{d:Bool}
structure Sim(x:Instance)(k:Nat)(du:Option (List ByteArray))(M:Nat)(l:List Visit)(r:Route)(j:Nat)(p:Part):Prop where
 good:Good x k M p
 vis:p.visits=j
 place:p.place=plJ x (lR x k) l j
 board:∀o:Nat,p.board.testBit o=true↔Bx (dB x o)=true/\(⟨(o:Nat),false⟩:Visit)∈l.take j/\¬(⟨(o:Nat),true⟩:Visit)∈l.take j
 mem:∀o:Nat,p.memory.testBit o=true->∃d,(⟨(o:Nat),d⟩:Visit)∈l.take j
 load:LdJ x l j p.load
 clk:∀m∈dpP x (lR x k) r (fB x l) j,m.since<=4096/\m.sheet.miles=miJ x (lR x k) l j/\∃c∈p.clocks,c.ready=m.ready/\c.since<=m.since
 val:rK p.value=vlJ x k du l j
end
end Rx
namespace Rx
open Sq
open Go.Nu
section
variable{x:Instance}{k:Nat}{near:List Int}{du:Option (List ByteArray)}{dl:List ByteArray}{M:Nat}{p:Part}{q:RP}{l:List Visit}{r:Route}{i j:Nat}{d:Bool}
end
end Rx
namespace Rx
open Sq
open Go.Nu
section
variable{x:Instance}{k:Nat}{near:List Int}{du:Option (List ByteArray)}{dl:List ByteArray}{M:Nat}{p:Part}{q:RP}{l:List Visit}{r:Route}{i j:Nat}{d:Bool}
structure EvalF(x:Instance)(r:Route):Prop where
 ty:cC r.type x.types.length=false
 seq:pU x r.visits=0
 able:Bw x r=0
 fits:wL x r=0
 best:(jH x r).2=0
 price:eK x r=lZ (lG x r (jH x r).1)
theorem ZT{set:Int}(hi:i<=62)(h:EG x set i=false):dE set (i:Int)=true/\Li x i=false:=by
 unfold EG at h;simp only[Xaf]at h;refine⟨?_,h.2⟩;have E:=h.1.2;rw[tT hi,TC]at E;unfold dE;rw[decide_eq_true (show((i:Nat):Int)>=0 by omega),decide_eq_true (show((i:Nat):Int)<=62 by omega),Xaq];generalize set/2^i=m at *;have:¬m%2=0:=by simpa using E
 simp;omega
theorem Y2{set:Int}{E:List Visit}{v:Visit}(I:x.orders.length<=60)(h:v∈nJ x set E):∃i,i<x.orders.length/\dE set ((i:Nat):Int)=true/\v∈fC x.orders (i:Nat):=by
 unfold nJ vN at h;obtain⟨i,hi,h⟩:=List.mem_flatMap.1 h;have hi:=Xam.1 hi;unfold AF at h;split at h
 . cases h
 next F=>
 exact⟨i,hi,(ZT (by omega) (by simpa using F)).1,(List.mem_filter.1 h).1⟩
theorem JU(f:Int->List Visit):∀M:List Int,(M.flatMap f).length=(M.map fun i=>(f i).length).sum
 | []=>rfl
 | i::M=>by rw[List.flatMap_cons,Xae,Xbc,List.sum_cons,JU f M]
theorem SD(h:qQ x=[])(hi:i<x.orders.length):(dB x i).pick.place>=0\/(dB x i).drop.place>=0:=by
 unfold qQ at h;simp only[Xat,Xbt]at h;obtain⟨⟨⟨_,_⟩,F⟩,_⟩:=h;unfold pR at F;rw[Xat]at F;have h:=Xbv.1 F.2 i (Xam.2 hi);unfold fY at h;rw[Xbt,CZ (List.getElem?_eq_getElem hi)]at h;unfold iZ at h;simp only[Xbr,Xat]at h;have e:x.orders[i]=dB x i:=by unfold dB;rw[List.getD,List.getElem?_eq_getElem hi];rfl
 rw[e]at h;obtain⟨⟨⟨⟨⟨_,O⟩,J⟩,_⟩,_⟩,_⟩:=h;have E:=cY O;have I:=cY J;simp only[Xaf]at E;have a1:=eH.1 (iV E.1);have a2:=eH.1 (iV E.2);simp only[Xcm,beq_eq_false_iff_ne,ne_eq]at I;omega
end
end Rx
namespace Rx
open Sq
open Go.Nu
theorem DQ(u v:Visit):uH u v=0↔MD u v=true:=by
 obtain⟨a,b⟩:=u;obtain⟨c,d⟩:=v;unfold uH MD or2 jY IV;simp only[Xak,Xba,Xbo];cases b <;> cases d <;> simp <;> (repeat' split) <;> omega
theorem TS(u v:Visit)(h:MD u v=false):DG u v=decide (uH u v<0):=by
 have h0:¬uH u v=0:=fun e=>by rw[(DQ u v).1 e]at h;cases h
 obtain⟨a,b⟩:=u;obtain⟨c,d⟩:=v;unfold uH or2 jY IV at *;unfold DG;rw[Xas];simp only[Xbq,Xak,decide_eq_true_eq,Xba,Xbb];cases b <;> cases d <;> simp at h0 |- <;> (repeat' split) <;> (repeat' split at h0) <;> omega
theorem KW:∀a b:List Visit,wA a b=decide (OM a b<0)
 | [],[]=>rfl
 | [],_::_=>rfl
 | _::_,[]=>rfl
 | u::l,v::m=>by
   show(if(!MD u v)=true then DG u v else wA l m)=decide (or2 (uH u v) (OM l m)<0);cases h:MD u v with
   | true=>
     rw[if_neg (by simp),KW l m];unfold or2;rw[if_pos ((DQ u v).2 h)]
   | false=>
     have h0:¬uH u v=0:=fun e=>by rw[(DQ u v).1 e]at h;cases h
     rw[if_pos (by simp),TS u v h];unfold or2;rw[if_neg h0]
theorem ajJ(x:Instance){s i:Nat}(hi:i<=62):EG x (s:Int) i=(!pP (s:Int) i||Li x i):=by
 unfold EG;rw[decide_eq_false (show ¬((i:Int)>62)by omega),Xbm,tT hi,TC,Do (by omega) (by omega),Xaq,Xcs]
 congr 1
 have e:(s:Int)/2^i%2=((s/2^i%2:Nat):Int):=by simp
 rw[e];have E:s/2^i%2<2:=Nat.mod_lt _ (by decide);generalize s/2^i%2=m at *;rcases(show m=0\/m=1 by omega)with rfl|rfl <;> rfl
theorem Rl{x:Instance}(J:Sq.Acc x){i:Int}(h0:0<=i)(h1:i<(x.orders.length:Int)):fC x.orders i=lH x i:=by
 obtain⟨o,F⟩:=aN (show i.toNat<x.orders.length by omega);have E:=J.order o (Xac F);have I:cC i x.orders.length=false:=by unfold cC;simp;omega
 unfold fC lH;rw[if_neg (by rw[I];simp),F];exact EH E.pick E.drop
theorem anA{x:Instance}(F:Sq.Acc x)(l:List Visit)(v:Visit):WA x l v=rB x v.order l:=by
 unfold WA rB;rw[List.not_any_eq_all_not];refine KP fun q I=>?_
 have E:=F.beforeB q I;have e:(decide (q.a<0)||decide (q.a>=(x.orders.length:Int)))=false:=by
   have:=E.a;rw[decide_eq_false (by omega),decide_eq_false (by omega)];rfl
 unfold DD;rw[e,Xbm,Rl F E.a.1 E.a.2];have J:gJ l (lH x q.a)=(lH x q.a).all (pG l):=rfl;rw[J,bne];cases(q.b == v.order) <;> cases(lH x q.a).all (pG l) <;> rfl
theorem O1{x:Instance}{i:Int}{v:Visit}(h:v∈lH x i):v.order=i:=by
 unfold lH at h;split at h
 . unfold cG at h
   rcases Xau.1 h with h|h
   . split at h
     . rw[Xbf.1 h]
     . cases h
   . split at h
     . rw[Xbf.1 h]
     . cases h
 . cases h
theorem Dc(l:List Visit)(v:Visit):(!decide (bD l v>=0))=decide (bD l v<0):=by
 by_cases h:bD l v>=0
 . rw[decide_eq_true h,decide_eq_false (by omega)];rfl
 . rw[decide_eq_false h,decide_eq_true (by omega)];rfl
theorem aqI(l:List Visit)(v:Visit):pG l v=decide (bD l v>=0):=by
 have:=Dc l v;unfold pG;rw[<-this,Bool.not_not]
theorem aqB(l:List Visit):∀V:List Visit,V.length<=2->V.Nodup->V.filter (fun v=>(!decide (bD l v>=0))&&Aj V l v)=BA l V V.length
 | [],_,_=>rfl
 | [a],_,_=>by
   have E:Aj [a] l a=true:=by
     unfold Aj;rw[Xbp];have:eqV a a=true:=by unfold eqV;simp
     rw[this];rfl
   rw[List.filter_cons,E,Xbo,Dc];show _=Al l [a] 0++[];rw[Xai];unfold Al;simp
 | [a,b],_,hn=>by
   have F:a≠b:=by simp at hn;exact hn
   have J:∀u:Visit,eqV u u=true:=fun u=>by unfold eqV;simp
   have I:eqV a b=false:=by
     unfold eqV;obtain⟨o,d⟩:=a;obtain⟨U,Y⟩:=b;cases h:((o == U)&&((d == Y)&&true))with
     | false=>rfl
     | true=>
       simp only[Xak,Xba,Xbo]at h;exact absurd (by rw[h.1,h.2]) F
   have E:Aj [a,b] l a=true:=by
     unfold Aj;rw[Xbp,J];rfl
   have O:Aj [a,b] l b=pG l a:=by
     unfold Aj;rw[Xbp,I];show(a::List.takeWhile (fun w=> !eqV w b) [b]).all (pG l)=_;rw[Xbp,J];show(pG l a&&true)=_;rw[Xbo]
   rw[List.filter_cons,List.filter_cons,E,O,Xbo,Dc,Dc,aqI];show _=Al l [a,b] 0++(Al l [a,b] 1++[]);rw[Xai];unfold Al;simp;by_cases h1:bD l a<0 <;> by_cases X:bD l b<0 <;> by_cases Z:0<=bD l a <;> simp[h1,X,Z]
 | _::_::_::_,h,_=>by simp at h
theorem Ou(x:Instance)(i:Int):(lH x i).Nodup:=by
 unfold lH;split
 . unfold cG
   split <;> split <;> simp
 . exact List.nodup_nil
theorem A9{x:Instance}(E:Sq.Acc x)(O:x.orders.length<=62)(s:Nat)(l:List Visit):vZ x (s:Int) l=nJ x (s:Int) l:=by
 unfold vZ rN nJ vN;rw[List.flatMap_def,List.flatMap_def]
 congr 1
 refine List.map_congr_left fun i hi=>?_
 have hi:=Xam.1 hi;unfold wS AF Ik;rw[ajJ x (show i<=62 by omega)];cases h1:(!pP (s:Int) (i:Nat)||Li x i)with
 | true=>rw[if_pos (by simp),if_pos rfl]
 | false=>
   rw[Xbm,if_neg (by simp:¬false=true),Rl E (by omega) (by omega)];have F:(lH x (i:Nat)).filter (qJ x l)=(lH x (i:Nat)).filter fun v=>((!decide (bD l v>=0))&&Aj (lH x (i:Nat)) l v)&&rB x (i:Nat) l:=
     List.filter_congr fun v I=>by
       have J:=O1 I;unfold qJ;rw[anA E,J,Rl E (by omega) (by omega)]
   rw[F];cases U:rB x (i:Nat) l with
   | false=>rw[if_pos (by simp)];simp
   | true=>
     rw[if_neg (by simp),<-aqB l _ (AY x i) (Ou x i)];simp
end Rx
namespace Rx
open Sq
open Go.Nu
structure Cx(x:Instance)(s:Nat):Prop where
 ck:qQ x=[]
 n8:x.orders.length<=8
 pos:0<s
 top:s<2^x.orders.length
section
variable{x:Instance}{s:Nat}{l:List Visit}
def Iy(x:Instance)(s:Nat):List Visit:=(Sq.gZ (s:Int)).flatMap fun i=>fC x.orders i
theorem F9:(Iy x s).length=iS x (s:Int):=by unfold Iy;rw[JU];rfl
theorem AO{a:Int}:a∈Sq.gZ (s:Int)↔∃i:Nat,a=(i:Nat)/\i<63/\s.testBit i=true:=by
 unfold Sq.gZ Sq.oT;rw[Xbd];constructor
 . rintro⟨i,hi,rfl⟩
   obtain⟨h1,E⟩:=List.mem_filter.1 hi;have h1:=Xam.1 h1;rw[kS (by omega) (by omega),Xaq]at E;exact⟨i,rfl,h1,E⟩
 . rintro⟨i,rfl,h1,E⟩
   refine⟨i,List.mem_filter.2 ⟨Xam.2 h1,?_⟩,rfl⟩;rw[kS (by omega) (by omega),Xaq];exact E
theorem D5(h:Cx x s){i:Nat}(E:s.testBit i=true):i<x.orders.length:=by
 false_or_by_contra
 rename_i F
 rw[Nat.testBit_lt_two_pow (Xcb h.top (Xav (by decide) (by omega)))]at E;cases E
theorem C6{i:Nat}(hi:i<x.orders.length){v:Visit}(E:v∈fC x.orders (i:Nat)):v.order=(i:Nat):=by
 rw[Bh hi]at E;unfold gC at E;rcases Xau.1 E with E|E
 . split at E
   . rw[Xbf.1 E]
   . cases E
 . split at E
   . rw[Xbf.1 E]
   . cases E
theorem Da(h:Cx x s){v:Visit}:v∈Iy x s↔∃i:Nat,i<x.orders.length/\s.testBit i=true/\v∈fC x.orders (i:Nat):=by
 unfold Iy;rw[List.mem_flatMap];constructor
 . rintro⟨a,I,F⟩
   obtain⟨i,rfl,_,E⟩:=AO.1 I;exact⟨i,D5 h E,E,F⟩
 . rintro⟨i,hi,E,F⟩
   have:=h.n8;exact⟨_,AO.2 ⟨i,rfl,by omega,E⟩,F⟩
theorem QG(h:Cx x s)(E:Sq.jB x (s:Int) l):∀v∈l,v∈Iy x s:=fun v I=>by
 obtain⟨a,b,e⟩:=List.append_of_mem I;have:=h.n8;obtain⟨i,hi,F,J⟩:=Y2 (by omega) (E a v b e);rw[kS (by omega) (by omega),Xaq]at F;exact(Da h).2 ⟨i,hi,F,J⟩
theorem N7(h:Cx x s)(E:Sq.jB x (s:Int) l):∀v∈l,∃i:Nat,v.order=(i:Nat)/\i<x.orders.length/\s.testBit i=true:=fun v I=>by
 obtain⟨i,hi,F,J⟩:=(Da h).1 (QG h E v I);exact⟨i,C6 hi J,hi,F⟩
theorem acX{p:List Visit}{v:Visit}(h:v∈nJ x (s:Int) p):¬v∈p:=by
 unfold nJ vN at h;obtain⟨i,hi,h⟩:=List.mem_flatMap.1 h;unfold AF at h;split at h
 . cases h
 have h:=(List.mem_filter.1 h).2;unfold qJ at h;simp only[Xak,Xbb,decide_eq_false_iff_not]at h;intro F;obtain⟨j,h1,E⟩:=GX F;have:=Yq h1 E;have:=h.1.1;omega
theorem ZN(E:Sq.jB x (s:Int) l):Dis l:=aoH fun j v F I=>by
 have e:l=l.take j++v::l.drop (j+1):=by rw[<-rJ F,List.take_append_drop]
 exact acX (E _ _ _ e) I
theorem Dz(h:Cx x s)(E:Sq.jB x (s:Int) l):l.length<=iS x (s:Int):=by
 rw[<-F9];exact TP l _ (ZN E) (QG h E)
theorem Wa(h:Cx x s)(E:Sq.jB x (s:Int) l)(I:l.length=iS x (s:Int)):nJ x (s:Int) l=[]:=by
 cases e:nJ x (s:Int) l with
 | nil=>rfl
 | cons v r=>
   have F:=Dz h (E.snoc (v:=v) (by rw[e];exact Xcl));rw[Xae,I]at F;simp at F;omega
theorem YX(h:Cx x s)(E:Sq.jB x (s:Int) l)(F:l.length=iS x (s:Int)):∀v∈Iy x s,v∈l:=
 (UT (fun _=>0) l _ (ZN E) (QG h E) (by rw[F9,F])).2
theorem A7{i:Int}:iF l i=true↔∃v∈l,v.order=i:=by
 unfold iF;rw[Xan];simp
theorem GE(h:Cx x s)(O:Sq.jB x (s:Int) l):(cK l).1=(s:Int)↔∀i:Nat,i<x.orders.length->iF l (i:Nat)=s.testBit i:=by
 have X:=h.n8;have U:=N7 h O;have e:(cK l).1=((uJ l:Nat):Int):=by
   rw[<-FW];unfold sB;rw[if_pos];refine Xaj.2 fun v E=>?_
   obtain⟨i,h1,V,_⟩:=U v E;unfold okV;rw[h1];simp;omega
 have F:∀i:Nat,(uJ l).testBit i=iF l (i:Nat):=fun i=>by
   rw[FU];unfold iF;refine qT fun v E=>?_
   obtain⟨k,h1,V,_⟩:=U v E;rw[h1,Xaq,Xas];simp;omega
 rw[e];constructor
 . intro J i hi
   rw[<-F i,show uJ l=s by exact_mod_cast J]
 . intro J
   have:uJ l=s:=Nat.eq_of_testBit_eq fun i=>by
     by_cases hi:i<x.orders.length
     . rw[F,J i hi]
     . have h1 : s.testBit i = false := by
         cases I:s.testBit i with
         | false=>rfl
         | true=>exact absurd (D5 h I) hi
       rw[h1,F];cases I:iF l (i:Nat)with
       | false=>rfl
       | true=>
         obtain⟨v,E,Y⟩:=A7.1 I;obtain⟨k,h1,V,_⟩:=U v E;omega
   rw[this]
theorem NJ(h:Cx x s)(E:Sq.jB x (s:Int) l)(V:l.length=iS x (s:Int)):(cK l).1=(s:Int):=by
 refine(GE h E).2 fun i hi=>?_
 cases O:s.testBit i with
 | true=>
   have F:=SD h.ck hi;have J:∃v,v∈fC x.orders (i:Nat):=by
     rw[Bh hi];unfold gC;rcases F with F|F
     . exact⟨⟨(i:Nat),false⟩,Xbn _ (by rw[if_pos (decide_eq_true F)];simp)⟩
     . exact⟨⟨(i:Nat),true⟩,List.mem_append_right _ (by rw[if_pos (decide_eq_true F)];simp)⟩
   obtain⟨v,I⟩:=J;exact A7.2 ⟨v,YX h E V v ((Da h).2 ⟨i,hi,O,I⟩),C6 hi I⟩
 | false=>
   cases X:iF l (i:Nat)with
   | false=>rfl
   | true=>
     obtain⟨v,I,Z⟩:=A7.1 X;obtain⟨k,h1,Y,U⟩:=N7 h E v I;have:k=i:=by omega
     rw[this,O]at U;cases U
theorem Vb:∀{a b:List Visit},Dis a->Dis b->(∀v∈a,¬v∈b)->Dis (a++b)
 | [],b,_,hb,_=>hb
 | v::a,b,ha,hb,hd=>by
   refine⟨fun E=>?_,Vb ha.2 hb fun u F=>hd u (List.mem_cons_of_mem _ F)⟩;rcases Xau.1 E with E|E
   . exact ha.1 E
   . exact hd v Xcl E
theorem alM{i:Nat}(hi:i<x.orders.length):Dis (fC x.orders (i:Nat)):=by
 rw[Bh hi];unfold gC;split <;> split <;> simp[Dis]
theorem Po:∀M:List Nat,M.Nodup->(∀i∈M,i<x.orders.length)->Dis (M.flatMap fun i=>fC x.orders (i:Nat))
 | [],_,_=>trivial
 | i::M,hn,hM=>by
   obtain⟨h1,I⟩:=List.nodup_cons.1 hn;rw[List.flatMap_cons];refine Vb (alM (hM i (by simp))) (Po M I fun k E=>hM k (by simp[E])) fun v O J=>?_
   obtain⟨k,E,F⟩:=List.mem_flatMap.1 J;have V:=C6 (hM i (by simp)) O;have U:=C6 (hM k (by simp[E])) F;have:i=k:=by omega
   exact h1 (this▸E)
theorem abE(h:Cx x s):Dis (Iy x s):=by
 have e:Iy x s=((List.range 63).filter fun i=>dE (s:Int) (i:Nat)).flatMap fun i=>fC x.orders (i:Nat):=by
   unfold Iy Sq.gZ Sq.oT;rw[List.flatMap_map]
 rw[e];refine Po _ (List.nodup_range.filter _) fun i hi=>?_
 obtain⟨h1,E⟩:=List.mem_filter.1 hi;have h1:=Xam.1 h1;rw[kS (by omega) (by omega),Xaq]at E;exact D5 h E
theorem alP(h:Cx x s)(O:Sq.jB x (s:Int) l)(hs:SeqB x l)(ho:(cK l).1=(s:Int)):l.length=iS x (s:Int):=by
 have h1:=Dz h O;have hb:=(GE h O).1 ho;have h2:(Iy x s).length<=l.length:=TP _ l (abE h) fun v hv=>by
   obtain⟨i,hi,Z,E⟩:=(Da h).1 hv;obtain⟨u,X,aa⟩:=A7.1 ((hb i hi).trans Z);obtain⟨a,d,I,ha,J,_⟩:=hs.vis u X;have e:a=i:=by have:=congrArg Visit.order I;simp only at this;omega
   subst e;rw[Bh hi]at E;by_cases F:Bx (dB x a)=true
   . obtain⟨m1,m2,_⟩:=hs.pair a hi F d (I▸X)
     rw[Eb F]at E;rcases Xbe.1 E with rfl|E
     . exact m1
     . rw[Xbf.1 E];exact m2
   . have F:Bx (dB x a)=false:=by simpa using F
     have Y:v=u:=by
       rw[I];unfold Bx at F;unfold gC at E;unfold stR at J;cases d with
       | false=>
         have U:(dB x a).pick.place>=0:=by simpa using J
         have V:decide ((dB x a).drop.place>=0)=false:=by rw[decide_eq_true U,Xbl]at F;exact F
         rw[V,decide_eq_true U]at E;simpa using E
       | true=>
         have U:(dB x a).drop.place>=0:=by simpa using J
         have V:decide ((dB x a).pick.place>=0)=false:=by rw[decide_eq_true U,Xbo]at F;exact F
         rw[V,decide_eq_true U]at E;simpa using E
     rw[Y];exact X
 rw[F9]at h2;omega
end
end Rx
namespace Rx
open Sq
open Go.Nu
abbrev rtQ(k:Nat)(l:List Visit):Route:=⟨(k:Nat),0,[],l⟩
theorem aoO{x:Instance}(h:Sq.Acc x){k:Nat}{t:VType}(ht:x.types[k]?=some t){l:List Visit}(E:(jH x (rtQ k l)).2=0):
   bX x (rtQ k l)=true/\∃c m,c.length=l.length+1/\jN x t (rtQ k l) c 0 (fT t (rtQ k l))=.ok m:=by
 unfold jH at E;by_cases O:(!bX x (rtQ k l)||decide (((rtQ k l).rests.length:Int)>((rtQ k l).visits.length:Int)+1))=true
 . rw[if_pos O]at E;cases E
 rw[if_neg O]at E;have J:x.types[(rtQ k l).type.toNat]?=some t:=by
   show x.types[(((k:Nat):Int)).toNat]?=_;rw[Xaq];exact ht
 rw[J]at E;have X:bX x (rtQ k l)=true:=by
   cases e:bX x (rtQ k l)with
   | true=>rfl
   | false=>rw[e]at O;simp at O
 refine⟨X,?_⟩;obtain⟨Z,_⟩:=h.route X J
 change (CR x t (rtQ k l)).2=0 at E
 have Y:=aeL x t (rtQ k l) (l.length+1) (Xah _);have e:CR x t (rtQ k l)=match dpP x t (rtQ k l) (fB x l) (l.length+1)with
   | []=>(FF (Ay x t (fB x l) (cM (rtQ k l)) 0 (fT t (rtQ k l))),D4 (Ay x t (fB x l) (cM (rtQ k l)) 0 (fT t (rtQ k l))))
   | l0::ls=>((ls.foldl Sq.lX l0).sheet,0):=rfl
 change dpP x t (rtQ k l) (fB x l) (l.length+1)=_ at Y
 rw[e,Y]at E;cases I:dpL x t (rtQ k l) (l.length+1)with
 | nil=>
   exfalso
   rw[I]at E
   change D4 (Ay x t (fB x l) (cM (rtQ k l)) 0 (fT t (rtQ k l)))=0 at E
   have F:=mJ (r:=rtQ k l) (by show 0<=_;omega);have U:=Up x t (rtQ k l) (cM (rtQ k l)) 0 (fT t (rtQ k l)) (by rw[F];omega)
   change Ay x t (fB x l) _ _ _=_ at U
   rw[U]at E;obtain⟨e,V⟩:=(Q0 Z).1 I (cM (rtQ k l)) F ((sI (by rw[F];show 0<=_;omega)).2 (by show[] <+: _;exact List.nil_prefix));rw[V]at E;exact Cp _ _ _ _ V E
 | cons l0 ls=>
   obtain⟨bs,h1,_,h3⟩:=AJ (x:=x) (t:=t) (r:=rtQ k l) (l.length+1) l0 (by rw[I];exact Xcl);exact⟨bs,l0,h1,h3⟩
theorem N8{x:Instance}{t:VType}{r:Route}:∀(a b:List Bool) (k:Nat) (l m:Lab),jN x t r (a++b) k l=.ok m->∃E,jN x t r a k l=.ok E
 | [],b,k,l,m,_=>⟨l,rfl⟩
 | c::a,b,k,l,m,h=>by
   rw[List.cons_append]at h;unfold jN at h |-;cases e:fN x t r k l c with
   | error e'=>rw[e]at h;cases h
   | ok l'=>
     rw[e]at h;exact N8 a b (k+1) l' m h
theorem Yw{s u:Sta}(h:Cm s u=true):u=s:=by
 unfold Cm at h;obtain⟨a,b⟩:=s;obtain⟨c,d⟩:=u;simp at h;simp[h]
theorem D3{l:List Sta}{s u:Sta}(h:u∈l):u∈uT l s:=by
 unfold uT;split
 . exact h
 . exact Xbn _ h
theorem Jo(l:List Sta)(s:Sta):s∈uT l s:=by
 unfold uT;split
 next I=>
   obtain⟨u,F,E⟩:=Xan.1 I;rw[<-Yw E];exact F
 . exact List.mem_append_right _ (by simp)
theorem RT{t:VType}{l:List Sta}{d dr:Int}{u:Sta}(h:u∈l):u∈lP t l d dr:=D3 (D3 h)
theorem F1(t:VType)(l:List Sta)(m:Lab)(b:Bool):(⟨gI t m b,mF m b⟩:Sta)∈lP t l m.ready m.since:=by
 unfold lP gI mF;cases b with
 | false=>exact D3 (Jo _ _)
 | true=>exact Jo _ _
theorem Zr{n:Network}{t:VType}{src:Int}{st:Stop}{out:List Sta}{a u:Sta}(h:u∈out):u∈CA n t src st out a:=by
 unfold CA;simp only;split
 . exact h
 . split
   . exact h
   . exact RT h
theorem Ku{n:Network}{t:VType}{src:Int}{st:Stop}{u:Sta}:∀(l out:List Sta),u∈out->u∈l.foldl (CA n t src st) out
 | [],out,h=>h
 | a::l,out,h=>Ku l _ (Zr h)
theorem KE{n:Network}{t:VType}{src:Int}{st:Stop}{u a:Sta}(E:∀out,u∈CA n t src st out a):∀(l out:List Sta),a∈l->u∈l.foldl (CA n t src st) out
 | b::l,out,h=>by
   rcases Xbe.1 h with rfl|h
   . exact Ku l _ (E out)
   . exact KE E l _ h
def X6(x:Instance)(t:VType)(a:Int×List Sta)(v:Visit):Int×List Sta:=((eD x v).1.place,vO x.net t a.1 (eD x v).1 a.2)
def stF(x:Instance)(t:VType)(l:List Visit):Int×List Sta:=l.foldl (X6 x t) (t.src,lP t [] t.start 0)
theorem Gt(x:Instance)(t:VType)(l:List Visit)(v:Visit):stF x t (l++[v])=X6 x t (stF x t l) v:=by
 unfold stF;rw[Xbh];rfl
theorem Hs{x:Instance}{v:Visit}(h:(bA x v).2=true):eD x v=((bA x v).1,0):=by unfold eD;rw[if_pos h]
theorem aaT{x:Instance}{t:VType}{k:Nat}{l:List Visit}(h:∀v∈l,(bA x v).2=true):∀j,j<=l.length->(stF x t (l.take j)).1=gP x t (rtQ k l) j
 | 0,_=>rfl
 | j+1,hj=>by
   obtain⟨v,E⟩:=aN (show j<l.length by omega);rw[bQ E,Gt];show(eD x v).1.place=_;rw[Hs (h v (Xac E))];show(bA x v).1.place=(match (rtQ k l).visits[j]? with|some v=>(bA x v).1.place|none=>0);rw[show(rtQ k l).visits[j]?=some v from E]
theorem ZD{x:Instance}{t:VType}{k:Nat}{l:List Visit}{c:List Bool}(h0:0<=t.start)(J:∀v∈l,(bA x v).2=true)(hc:c.length=l.length+1):
   ∀j,j<=l.length->∀m,jN x t (rtQ k l) (c.take j) 0 (fT t (rtQ k l))=.ok m->∀b,(⟨gI t m b,mF m b⟩:Sta)∈(stF x t (l.take j)).2
 | 0,_,m,E,b=>by
   have E:fT t (rtQ k l)=m:=by
     have E:(Except.ok (fT t (rtQ k l)):Except Int Lab)=.ok m:=E;injection E
   subst E;have e:fT t (rtQ k l)=⟨t.start,0,aS⟩:=by
     unfold fT
     congr 1
     unfold fP;show(if t.start<(0:Int)then(0:Int)else t.start)=t.start;rw[if_neg (by omega)]
   have:=F1 t [] ⟨t.start,0,aS⟩ b;rw[e];exact this
 | j+1,hj,m,E,b=>by
   obtain⟨v,X⟩:=aN (show j<l.length by omega);obtain⟨q,hq⟩:=aN (show j<c.length by omega);rw[bQ hq]at E;have I:(c.take j).length=j:=by rw[Xao];omega
   rw[oN,I]at E;cases V:jN x t (rtQ k l) (c.take j) 0 (fT t (rtQ k l))with
   | error e=>rw[V]at E;cases E
   | ok m'=>
     rw[V]at E;have E:fN x t (rtQ k l) (0+j) m' q=.ok m:=E;rw[Xck]at E;unfold fN at E;rw[show(rtQ k l).visits[j]?=some v from X]at E;obtain⟨g1,g2,g3,rfl⟩:=Ij (k:=0) E;have ih:=ZD h0 J hc j (by omega) m' V q;have F:=Hs (J v (Xac X));have O:=aaT (t:=t) (k:=k) J j (by omega);rw[bQ X,Gt];unfold X6 vO;rw[F,O];refine KE (fun out=>?_) _ _ ih;have U:eU x.net t.profile (gP x t (rtQ k l) j) (bA x v).1.place (gI t m' q)=goL x t (gP x t (rtQ k l) j) (bA x v).1.place m' q:=rfl;unfold CA;simp only[U];have Z:((goL x t (gP x t (rtQ k l) j) (bA x v).1.place m' q).2.2 != 0||decide (W (W (mF m' q+(goL x t (gP x t (rtQ k l) j) (bA x v).1.place m' q).1)-gI t m' q)>t.drive))=false:=by
       rw[g1];have:¬lJ x t (gP x t (rtQ k l) j) (bA x v).1.place m' q>t.drive:=by omega
       unfold lJ at this;rw[decide_eq_false this];rfl
     have Y:Rx.lY (bA x v).1 (goL x t (gP x t (rtQ k l) j) (bA x v).1.place m' q).1=(W (fP (goL x t (gP x t (rtQ k l) j) (bA x v).1.place m' q).1 (bA x v).1.start+(bA x v).1.service),0):=by
       unfold Rx.lY;rw[if_neg (by omega)]
     rw[if_neg (by rw[Z];simp),Y,if_neg (by simp)];exact F1 t out ⟨W (fP (goL x t (gP x t (rtQ k l) j) (bA x v).1.place m' q).1 (bA x v).1.start+(bA x v).1.service),lJ x t (gP x t (rtQ k l) j) (bA x v).1.place m' q,iL x t (gP x t (rtQ k l) j) (bA x v).1 j m' q⟩ b
theorem VF{x:Instance}(h:Sq.Acc x){k:Nat}{t:VType}(O:x.types[k]?=some t){l:List Visit}(U:(jH x (rtQ k l)).2=0):(∀v∈l,(bA x v).2=true)/\∀j,j<=l.length->(stF x t (l.take j)).2≠[]:=by
 obtain⟨F,c,m,Y,J⟩:=aoO h O U;have I:∀v∈l,(bA x v).2=true:=by
   unfold bX at F;simp only[Xak]at F;exact Xaj.1 F.2
 refine⟨I,fun j Z X=>?_⟩;rw[<-List.take_append_drop j c]at J;obtain⟨V,E⟩:=N8 _ _ _ _ _ J;have h0:=(h.type t (Xac O)).start.1;have:=ZD (k:=k) h0 I Y j Z V E false;rw[X]at this;cases this
end Rx
namespace Rx
open Sq
open Go.Nu
section
variable{x:Instance}{s:Nat}{l:List Visit}
structure SeqF(x:Instance)(l:List Visit):Prop where
 off:(l.any fun v=>tW x v.order)=false
 apart:(x.apart.any fun q=>iF l q.a&&iF l q.b)=false
 before:(x.before.any fun q=> !E7 l q.a q.b)=false
theorem agW(h:pU x l=0):SeqF x l:=by
 unfold pU at h;split at h
 . cases h
 split at h
 . cases h
 next I=>
 split at h
 . cases h
 split at h
 . cases h
 split at h
 . cases h
 next F=>
 split at h
 . cases h
 next E=>
 exact⟨by simpa using I,by simpa using F,by simpa using E⟩
def E4(l:List Visit)(i:Nat):Nat:=l.findIdx fun v=>v.order == (i:Int)
theorem UM{i:Nat}(h:iF l (i:Nat)=true):E4 l i<l.length/\Sq.dB l (E4 l i)=(i:Int):=by
 obtain⟨v,I,J⟩:=A7.1 h;have E:E4 l i<l.length:=List.findIdx_lt_length_of_exists ⟨v,I,by simpa using J⟩;refine⟨E,?_⟩;have F:(l[E4 l i]'E).order=(i:Int):=by
   have:=List.findIdx_getElem (xs:=l) (p:=fun v:Visit=>v.order == (i:Int)) (w:=E);exact Xba.1 this
 unfold Sq.dB;rw[List.getD,List.getElem?_eq_getElem E];exact F
theorem afT(x:Instance)(i:Int):Mz x i=tW x i:=by
 unfold Mz tW;cases x.orders[i.toNat]? <;> rfl
theorem SA(Z:Sq.Acc x)(X:SeqF x l){q:Pair}(U:q∈x.before){a b:Nat}(Y:q.a=(a:Nat))(V:q.b=(b:Nat))(F:iF l (b:Nat)=true):iF l (a:Nat)=true/\E4 l a<E4 l b:=by
 have E:=(Z.beforeB q U).ne;have h1:E7 l q.a q.b=true:=by
   have:=Xay.1 X.before q U;simpa using this
 rw[Gw E,Y,V,F]at h1;simp only[Xby,Xbm,Xak,Xbb]at h1;refine⟨h1.1,?_⟩;obtain⟨p1,J⟩:=UM h1.1;obtain⟨q1,O⟩:=UM F
 false_or_by_contra
 rename_i hc
 have I:E4 l a≠E4 l b:=fun e=>by rw[e,O]at J;omega
 have:EB l (a:Nat) (b:Nat)=true:=Je.2 ⟨E4 l a,E4 l b,by omega,p1,J,O⟩;rw[this]at h1;cases h1.2
def ChI(s:Nat)(l:List Visit)(M:List Nat):Prop:=∀(i u:Nat),M[i]?=some u->∀j,u.testBit j=true->s.testBit i=true->s.testBit j=true/\E4 l j<E4 l i
theorem Y8(h:Cx x s)(hx:Sq.Acc x)(hf:SeqF x l)(hb:∀i:Nat,i<x.orders.length->iF l (i:Nat)=s.testBit i){M:List Nat}(V:ChI s l M){q:Pair}(hq:q∈x.before):ChI s l (zU M q):=by
 unfold zU;split
 . exact V
 next hc=>
 have X:=hx.beforeB q hq;obtain⟨a,ha⟩:=Int.eq_ofNat_of_zero_le X.a.1;obtain⟨b,U⟩:=Int.eq_ofNat_of_zero_le X.b.1;have aa:a<x.orders.length:=by have:=X.a.2;omega
 have ab:b<x.orders.length:=by have:=X.b.2;omega
 simp only[Xbq,decide_eq_true_eq,not_or]at hc;rw[ha,U]at hc |-;rw[Xaq,Xaq];obtain⟨ua,O⟩:=aN (l:=M) (k:=a) (by omega);obtain⟨ub,I⟩:=aN (l:=M) (k:=b) (by omega);rw[Xd O,Xd I];intro i u F j E Y;by_cases e:i=b
 . subst e
   rw[List.getElem?_set_self (by omega)]at F;have F:=Option.some.inj F;subst F;have hB:iF l (i:Nat)=true:=(hb i ab).trans Y;obtain⟨hA,Z⟩:=SA hx hf hq ha U hB;have J:s.testBit a=true:=(hb a aa).symm.trans hA;rw[Nat.testBit_or,Nat.testBit_or,Xbq,Xbq]at E;rcases E with(E|E)|E
   . exact V i ub I j E Y
   . obtain⟨h1,h2⟩:=V a ua O j E J
     exact⟨h1,by omega⟩
   . rw[Nat.testBit_two_pow]at E
     have:a=j:=by simpa using E
     subst this;exact⟨J,Z⟩
 . rw[List.getElem?_set_ne (by omega)]at F
   exact V i u F j E Y
theorem OJ(h:Cx x s)(I:Sq.Acc x)(F:SeqF x l)(E:∀i:Nat,i<x.orders.length->iF l (i:Nat)=s.testBit i):∀(L:List Pair) (M:List Nat),(∀q∈L,q∈x.before)->ChI s l M->ChI s l (L.foldl zU M)
 | [],M,_,hM=>hM
 | q::L,M,hL,hM=>OJ h I F E L _ (fun p J=>hL p (by simp[J])) (Y8 h I F E hM (hL q (by simp)))
theorem UE(h:Cx x s)(I:Sq.Acc x)(F:SeqF x l)(E:∀i:Nat,i<x.orders.length->iF l (i:Nat)=s.testBit i):∀(f:Nat) (M:List Nat),ChI s l M->ChI s l (PU x.before f M)
 | 0,M,hM=>hM
 | f+1,M,hM=>by
   unfold PU;split
   . exact hM
   . exact UE h I F E f _ (OJ h I F E x.before M (fun q J=>J) hM)
theorem Rh(h:Cx x s)(O:Sq.Acc x)(J:SeqF x l)(I:∀i:Nat,i<x.orders.length->iF l (i:Nat)=s.testBit i):ChI s l (sK x.orders.length x.before):=by
 unfold sK;refine UE h O J I _ _ fun i u E j F=>?_
 have E:u=0:=List.eq_of_mem_replicate (Xac E);rw[E,Nat.zero_testBit]at F;cases F
theorem TJ(h:Cx x s)(hx:Sq.Acc x)(X:Sq.jB x (s:Int) l)(Z:pU x l=0)(ho:(cK l).1=(s:Int)):vM x (s:Int)=0:=by
 have O:=agW Z;have V:=(GE h X).1 ho;have hn:=h.n8;have U:∀{a:Int},0<=a->a<(x.orders.length:Int)->dE (s:Int) a=iF l a:=fun {a} h0 h1=>by
   obtain⟨i,rfl⟩:=Int.eq_ofNat_of_zero_le h0;rw[kS (by omega) (by omega),Xaq,V i (by omega)]
 unfold vM;rw[if_neg (by omega)];rw[if_neg (by
   rw[nK fun a I=>?_];simp;obtain⟨i,rfl,_,E⟩:=AO.1 I;have:=D5 h E;exact decide_eq_false (by omega))]
 rw[if_neg (by
   rw[nK fun a I=>?_];simp;obtain⟨i,rfl,_,E⟩:=AO.1 I;have hi:=D5 h E;obtain⟨v,hv,Y⟩:=A7.1 ((V i hi).trans E);have:=Xay.1 O.off v hv;rw[Y]at this;rw[afT];simpa using this)]
 rw[if_neg (by
   rw[nK fun q J=>?_];simp;have F:=hx.apartB q J;rw[U F.a.1 F.a.2,U F.b.1 F.b.2];have:=Xay.1 O.apart q J;simpa using this)]
 rw[if_neg (by
   rw[nK fun q J=>?_];simp;have F:=hx.beforeB q J;rw[U F.a.1 F.a.2,U F.b.1 F.b.2];have h1:=Xay.1 O.before q J;have h1:E7 l q.a q.b=true:=by simpa using h1
   rw[Gw F.ne]at h1;cases e1:iF l q.b <;> cases e2:iF l q.a <;> simp_all)]
 rw[if_neg];rw[nK fun a I=>?_]
 . simp
 obtain⟨i,rfl,aa,E⟩:=AO.1 I;have hi:=D5 h E;have hL:=Ey x.orders.length x.before;obtain⟨u,hu⟩:=aN (l:=sK x.orders.length x.before) (k:=i) (by omega);rw[Xaq,Xd hu,kS (by omega) (by omega),Xaq];cases e:u.testBit i with
 | false=>rfl
 | true=>
   have:=(Rh h hx O V i u hu i e E).2;omega
end
end Rx
namespace Rx
open Sq
open Go.Nu
def nX(x:Instance)(r:Route):Int×Int:=if((oG x r).2.2 != 0)=true then(0,(oG x r).2.2)else lZ (oG x r).2.1
theorem SH{x:Instance}(E:Sq.Acc x)(r:Route):nX x r=eK x r:=by
 unfold nX eK;rw[E.eval r]
def pD(x:Instance)(b:Column×Bool)(l:List Visit):Column×Bool:=
 if((cK l).1 != b.1.set||(oG x ⟨b.1.type,0,[],l⟩).2.2 != 0)=true then b
 else if((nX x ⟨b.1.type,0,[],l⟩).2 != 0||(b.2&& !rZ ⟨b.1.type,b.1.set,(nX x ⟨b.1.type,0,[],l⟩).1,⟨b.1.type,0,[],l⟩⟩ b.1))=true then b
 else(⟨b.1.type,b.1.set,(nX x ⟨b.1.type,0,[],l⟩).1,⟨b.1.type,0,[],l⟩⟩,true)
def dQ(x:Instance):Nat->Column×Bool->List Visit->Column×Bool
 | 0,b,_=>b
 | f+1,b,l=>if((vZ x b.1.set l).length:Int)=0 then pD x b l else(vZ x b.1.set l).foldl (fun b v=>dQ x f b (l++[v])) b
theorem Xb(x:Instance)(b:Column×Bool)(l:List Visit):(pD x b l).1.type=b.1.type/\(pD x b l).1.set=b.1.set:=by
 unfold pD;split
 . exact⟨rfl,rfl⟩
 . split
   . exact⟨rfl,rfl⟩
   . exact⟨rfl,rfl⟩
theorem Kg{α:Type}{g:Column×Bool->α->Column×Bool}(E:∀b v,(g b v).1.type=b.1.type/\(g b v).1.set=b.1.set):∀(vs:List α) (b:Column×Bool),(vs.foldl g b).1.type=b.1.type/\(vs.foldl g b).1.set=b.1.set
 | [],b=>⟨rfl,rfl⟩
 | v::vs,b=>by
   obtain⟨h1,F⟩:=Kg E vs (g b v);obtain⟨I,J⟩:=E b v;exact⟨h1.trans I,F.trans J⟩
theorem vI(x:Instance):∀(f:Nat) (b:Column×Bool) (l:List Visit),(dQ x f b l).1.type=b.1.type/\(dQ x f b l).1.set=b.1.set
 | 0,b,l=>⟨rfl,rfl⟩
 | f+1,b,l=>by
   unfold dQ;split
   . exact Xb x b l
   . exact Kg (fun b v=>vI x f b _) _ b
theorem xP{x:Instance}{r:Route}(E:(jJ x r).2.2=0):pU x r.visits=0/\(jH x r).2=0:=by
 unfold jJ at E;split at E
 . cases E
 split at E
 . next c=>rw[show pU x r.visits=0 from E]at c;simp at c
 next I=>
 split at E
 . next c=>rw[show Bw x r=0 from E]at c;simp at c
 split at E
 . next c=>rw[show wL x r=0 from E]at c;simp at c
 split at E
 . next c=>rw[show(jH x r).2=0 from E]at c;simp at c
 next F=>exact⟨by simpa using I,by simpa using F⟩
section
variable{x:Instance}{s k:Nat}{t:VType}
def D9(x:Instance)(s k:Nat)(l:List Visit):Prop:=∀L,l <+: L->Sq.jB x (s:Int) L->¬((cK L).1=(s:Int)/\(jJ x (rtQ k L)).2.2=0)
theorem D9.more{l:List Visit}(h:D9 x s k l)(v:Visit):D9 x s k (l++[v]):=fun L E F=>h L ((List.prefix_append l [v]).trans E) F
theorem Vg(F:Sq.Acc x){b:Column×Bool}(E:b.1.type=(k:Int)/\b.1.set=(s:Int)){l:List Visit}(h:¬((cK l).1=(s:Int)/\(jJ x (rtQ k l)).2.2=0)):pD x b l=b:=by
 unfold pD;rw[if_pos];rw[E.1,E.2,<-F.eval];cases e:((cK l).1 != (s:Int)||(jJ x ⟨(k:Int),0,[],l⟩).2.2 != 0)with
 | true=>rfl
 | false=>
   simp only[Xaf,bne_eq_false_iff_eq]at e;exact absurd e h
theorem Vy{α:Type}{g:Column×Bool->α->Column×Bool}{b:Column×Bool}:∀vs:List α,(∀v∈vs,g b v=b)->vs.foldl g b=b
 | [],_=>rfl
 | v::vs,h=>by
   rw[List.foldl_cons,h v (by simp)];exact Vy vs fun u E=>h u (by simp[E])
theorem A0(E:Sq.Acc x)(F:x.orders.length<=62):∀(f:Nat) (b:Column×Bool) (l:List Visit),b.1.type=(k:Int)/\b.1.set=(s:Int)->Sq.jB x (s:Int) l->D9 x s k l->dQ x f b l=b
 | 0,_,_,_,_,_=>rfl
 | f+1,b,l,hb,hst,h=>by
   unfold dQ;rw[hb.2,A9 E F];split
   . exact Vg E hb (h l (List.prefix_refl l) hst)
   . exact Vy _ fun v I=>A0 E F f b _ hb (hst.snoc I) (h.more v)
theorem ajR(J:Sq.Acc x)(I:x.types[k]?=some t){l:List Visit}(h:(stF x t l).2=[]):D9 x s k l:=fun L F O E=>by
 obtain⟨r,rfl⟩:=F;have:=(VF J I (xP E.2).2).2 l.length (by simp);rw[List.take_left]at this;exact this h
theorem WM(J:Sq.Acc x)(I:x.types[k]?=some t){l:List Visit}{v:Visit}(O:v∈l)(h:(bA x v).2=false):D9 x s k l:=fun L F U E=>by
 have:=(VF J I (xP E.2).2).1 v (F.subset O);rw[h]at this;cases this
structure RelS(sr:Sr)(b:Column×Bool):Prop where
 f:b.2=sr.found
 best:b.2=true->sr.best=b.1
theorem XC(hx:Sq.Acc x)(h:Cx x s){sr:Sr}{b:Column×Bool}(U:RelS sr b)(h1:sr.x=x)(h2:sr.kind=k)(h3:sr.set=(s:Int))(hb:b.1.type=(k:Int)/\b.1.set=(s:Int)){l:List Visit}(Z:Sq.jB x (s:Int) l)(hl:l.length=iS x (s:Int)):
   RelS (IX sr l) (pD x b l):=by
 have ho:=NJ h Z hl;have eP:eK sr.x (lD sr l)=eK x ⟨(k:Int),0,[],l⟩:=by unfold lD;rw[h1,h2]
 have eC:∀p,Hj sr l p=⟨(k:Int),(s:Int),p,⟨(k:Int),0,[],l⟩⟩:=fun p=>by unfold Hj lD;rw[h2,h3]
 have e0:((s:Int) != (s:Int))=false:=by simp
 have eL : pD x b l = if ((jJ x ⟨(k : Int), 0, [], l⟩).2.2 != 0) = true then b
     else if((eK x ⟨(k:Int),0,[],l⟩).2 != 0||(b.2&& !rZ ⟨(k:Int),(s:Int),(eK x ⟨(k:Int),0,[],l⟩).1,⟨(k:Int),0,[],l⟩⟩ b.1))=true then b
     else(⟨(k:Int),(s:Int),(eK x ⟨(k:Int),0,[],l⟩).1,⟨(k:Int),0,[],l⟩⟩,true):=by
   unfold pD;rw[hb.1,hb.2,ho,SH hx,<-hx.eval,e0,Xbm]
 have Y:(jJ x ⟨(k:Int),0,[],l⟩).2.2≠0->(eK x ⟨(k:Int),0,[],l⟩).2≠0:=fun I=>by
   unfold eK;rw[if_pos (show((jJ x ⟨(k:Int),0,[],l⟩).2.2 != 0)=true by simpa using I)];exact I
 rw[eL];unfold IX;rw[eP,eC];generalize (jJ x ⟨(k:Int),0,[],l⟩).2.2=E at *;generalize eK x ⟨(k:Int),0,[],l⟩=P at *;by_cases V:P.2=0
 . have I:E=0:=Decidable.byContradiction fun I=>Y I V
   have e1:(P.2 != 0)=false:=by simpa using V
   rw[if_pos (show(P.2 == 0)=true by simpa using V),if_neg (show ¬(E != 0)=true by simpa using I),e1,Xbm];cases X:b.2 with
   | false=>
     have J:sr.found=false:=U.f.symm.trans X;rw[Bool.false_and,if_neg (show ¬false=true by simp)];refine⟨rfl,fun _=>?_⟩;show qG sr.best sr.found _=_;unfold qG;rw[J];rfl
   | true=>
     have J:sr.found=true:=U.f.symm.trans X;have F:=U.best X;rw[Xbl];cases O:rZ ⟨(k:Int),(s:Int),P.1,⟨(k:Int),0,[],l⟩⟩ b.1 with
     | true=>
       rw[if_neg (show ¬(!true)=true by simp)];refine⟨rfl,fun _=>?_⟩;show qG sr.best sr.found _=_;unfold qG;rw[J,F,O];rfl
     | false=>
       rw[if_pos (show(!false)=true by simp)];refine⟨X,fun _=>?_⟩;show qG sr.best sr.found _=_;unfold qG;rw[J,F,O];rfl
 . rw[if_neg (show ¬(P.2 == 0)=true by simpa using V)]
   have e1:(P.2 != 0)=true:=by simpa using V
   rw[e1,Bool.true_or];by_cases I:(E != 0)=true
   . rw[if_pos I];exact U
   . rw[if_neg I,if_pos rfl];exact U
theorem Jm(U:Sq.Acc x)(h:Cx x s)(ht:x.types[k]?=some t):∀(f g:Nat) (sr:Sr) (b:Column×Bool) (l:List Visit),RelS sr b->sr.x=x->sr.kind=k->sr.set=(s:Int)->sr.total=iS x (s:Int)->b.1.type=(k:Int)/\b.1.set=(s:Int) ->
   Sq.jB x (s:Int) l->iS x (s:Int)-l.length<f->iS x (s:Int)-l.length<g->RelS (mL t f sr l (stF x t l).1 (stF x t l).2) (dQ x g b l)
 | 0,g,sr,b,l,I,h1,X,O,Y,E,hst,hf,hg=>by omega
 | f+1,0,sr,b,l,I,h1,X,O,Y,E,hst,hf,hg=>by omega
 | f+1,g+1,sr,b,l,I,h1,X,O,Y,E,hst,hf,hg=>by
   have hn:=h.n8;have af:=Dz h hst;unfold mL dQ;rw[E.2,A9 U (by omega),Y];by_cases hl:l.length=iS x (s:Int)
   . rw[if_pos (by rw[hl];exact beq_self_eq_true _),Wa h hst hl,if_pos (show(([]:List Visit).length:Int)=0 from rfl)]
     exact XC U h I h1 X O E hst hl
   rw[if_neg (by simp;omega),h1,O];by_cases hN:((nJ x (s:Int) l).length:Int)=0
   . rw[if_pos hN]
     have hN:nJ x (s:Int) l=[]:=Xcj.1 (by omega);rw[hN];have:pD x b l=b:=Vg U E fun hc=>hl (alP h hst (Wz (xP hc.2).1) hc.1)
     rw[this];exact I
   rw[if_neg hN];have ac : ∀ (vs : List Visit) (sr : Sr) (b : Column × Bool), (∀ v ∈ vs, v ∈ nJ x (s : Int) l) -> RelS sr b -> sr.x = x -> sr.kind = k -> sr.set = (s : Int) -> sr.total = iS x (s : Int) -> b.1.type = (k : Int) /\ b.1.set = (s : Int) ->
       RelS (vs.foldl (tQ t (mL t f) l (stF x t l).1 (stF x t l).2) sr) (vs.foldl (fun b v=>dQ x g b (l++[v])) b):=by
     intro vs;induction vs with
     | nil=>intro sr b _ I _ _ _ _ _;exact I
     | cons v vs ih=>
       intro sr b hv I h1 X O Y E;have ad:=hv v (by simp);have F:=hst.snoc ad;have aa:(l++[v]).length=l.length+1:=by simp
       rw[List.foldl_cons,List.foldl_cons];have hk:=vI x g b (l++[v]);have V:RelS (tQ t (mL t f) l (stF x t l).1 (stF x t l).2 sr v) (dQ x g b (l++[v])):=by
         unfold tQ;rw[h1];have ab:=Gt x t l v;by_cases J:((eD x v).2 != 0)=true
         . rw[if_pos J]
           have ae:(bA x v).2=false:=by
             cases e:(bA x v).2 with
             | false=>rfl
             | true=>rw[Hs e]at J;simp at J
           rw[A0 U (by omega) g b _ E F (WM U ht (v:=v) (by simp) ae)];exact I
         rw[if_neg J];by_cases Z:(vO x.net t (stF x t l).1 (eD x v).1 (stF x t l).2).length=0
         . rw[if_pos Z]
           have hd:(stF x t (l++[v])).2=[]:=by rw[ab];exact Xcj.1 Z
           rw[A0 U (by omega) g b _ E F (ajR U ht hd)];exact I
         rw[if_neg Z];have:=Jm U h ht f g sr b (l++[v]) I h1 X O Y E F (by rw[aa];omega) (by rw[aa];omega);rw[ab]at this;exact this
       have hB:SameB sr (tQ t (mL t f) l (stF x t l).1 (stF x t l).2 sr v):=by
         unfold tQ;split
         . exact .refl sr
         . split
           . exact .refl sr
           . exact qC t f _ _ _ _
       exact ih _ _ (fun u hu=>hv u (by simp[hu])) V (hB.x.trans h1) (hB.kind.trans X) (hB.set.trans O) (hB.total.trans Y) ⟨hk.1.trans E.1,hk.2.trans E.2⟩
   exact ac _ sr b (fun v hv=>hv) I h1 X O Y E
def Tr(x:Instance)(k s:Nat):Column×Int:=
 if(dQ x 17 (⟨(k:Int),(s:Int),0,⟨0,0,[],[]⟩⟩,false) []).2=true then((dQ x 17 (⟨(k:Int),(s:Int),0,⟨0,0,[],[]⟩⟩,false) []).1,0)else(cJ,24)
theorem V8(U:Sq.Acc x)(h:Cx x s)(Z:k<x.types.length):Tr x k s=pS x (k:Nat) (s:Nat):=by
 obtain⟨t,X⟩:=aN Z;have Y:=h.n8;have hT:=sQ (x:=x) (set:=(s:Int)) (n:=x.orders.length) (by omega) (by exact_mod_cast h.top) (by omega);have F:II x (k:Nat) (s:Nat)=false:=by
   unfold II;have e1:shV .shr .i64 (s:Int) (x.orders.length:Nat)=0:=by
     rw[Lm Y,Nat.div_eq_of_lt h.top];rfl
   have hp:=h.pos;rw[e1,decide_eq_false (by omega),decide_eq_false (by omega),decide_eq_false (by omega)];rfl
 unfold Tr pS;rw[if_neg (show ¬II x (k:Nat) (s:Nat)=true by rw[F];simp)];by_cases J:vM x (s:Int)=0
 . rw[if_neg (show ¬(vM x (s:Int) != 0)=true by simpa using J),Xaq,X]
   show _=(if(Bq x k (s:Int) t).found=true then((Bq x k (s:Int) t).best,0)else(cJ,24):Column×Int);have O:=Jm U h X 17 17 ⟨x,k,(s:Int),iS x (s:Int),cJ,false⟩ (⟨(k:Int),(s:Int),0,⟨0,0,[],[]⟩⟩,false) [] ⟨rfl,fun h=>by cases h⟩ rfl rfl rfl rfl ⟨rfl,rfl⟩ Sq.jB.nil (by simp;omega) (by simp;omega)
   change RelS (Bq x k (s:Int) t) _ at O
   have I:=O.f;have E:=O.best;generalize dQ x 17 (⟨(k:Int),(s:Int),0,⟨0,0,[],[]⟩⟩,false) []=R at *;generalize Bq x k (s:Int) t=Wk at *;cases e:R.2 with
   | true=>
     rw[e]at I;rw[if_pos rfl,if_pos I.symm,E e]
   | false=>
     rw[e]at I;rw[if_neg (by simp),if_neg (by rw[<-I];simp)]
 . rw[if_pos (show(vM x (s:Int) != 0)=true by simpa using J)]
   rw[A0 U (by omega) 17 _ [] ⟨rfl,rfl⟩ Sq.jB.nil (fun L _ hS V=>J (TJ h U hS (xP V.2).1 V.1))];rfl
end
end Rx
end Go.Proofs.YtohmomanmikphaaGreatDoor
