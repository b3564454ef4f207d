import Derived.Test.YtohmomanmikphaaGreatDoorPa13
set_option linter.unusedSimpArgs false
set_option linter.unusedVariables false
set_option maxRecDepth 100000
section
namespace Go.Proofs.YtohmomanmikphaaGreatDoor.Sq
open Go.Proofs.Tryz(prog)
open Go.Aw Go.Aw.D Go.Proofs Ty
open Mv (bJ bR aM)
structure Tm where
 arrive:Int
 begin_:Int
 depart:Int
 rest:Bool
def pX(t:Tm):List AV:=[int t.arrive,int t.begin_,int t.depart,boo t.rest]
theorem Wh(s:Tm):(pX s).length=4:=(rfl)
theorem Wj(s:Tm):(pX s).take 4=pX s:=(rfl)
attribute [go_sem] Wh Wj
structure Sheet where
 rest:Bool
 depart:Int
 times:List Tm
 end_:Int
 miles:Int
def bP(s:Sheet):List AV:=[boo s.rest,int s.depart,.sl (s.times.map pX),int s.end_,int s.miles]
def aS:Sheet:=⟨false,0,[],0,0⟩
abbrev SC:=St8×List Int×List Tm
def iU(x:Instance)(t:VType)(a:SC)(v:Visit):St8×Int:=fU x t a.1 (bA x v).1.place (bA x v).1.close 14
def CK(s:Stop)(n:St8):St8:=⟨n.place,W (fP n.time s.start+s.service),n.driven,n.miles⟩
def lC(x:Instance)(t:VType)(a:SC)(p:Visit×Bool):SC:=
 (kI t (CK (bA x p.1).1 (iU x t a p.1).1) p.2,a.2.1++[(iU x t a p.1).1.driven],
   a.2.2++[⟨(iU x t a p.1).1.time,fP (iU x t a p.1).1.time (bA x p.1).1.start,(kI t (CK (bA x p.1).1 (iU x t a p.1).1) p.2).time,p.2⟩])
def jW(x:Instance)(t:VType)(a:SC)(p:Visit×Bool):Except Int SC:=
 if((iU x t a p.1).2 != 0)=true then .error (iU x t a p.1).2 else .ok (lC x t a p)
def mT(r:Route)(t:VType)(b:Bool):St8:=kI t ⟨t.src,fP t.start r.start,0,0⟩ b
def nZ(x:Instance)(t:VType)(b:Bool)(s0:St8)(a:SC):Sheet×List Int×Int:=
 if((fU x t a.1 t.dst t.close 15).2 != 0)=true then(aS,[],(fU x t a.1 t.dst t.close 15).2)
 else(⟨b,s0.time,a.2.2,(fU x t a.1 t.dst t.close 15).1.time,(fU x t a.1 t.dst t.close 15).1.miles⟩,a.2.1++[(fU x t a.1 t.dst t.close 15).1.driven],0)
def Le(x:Instance)(r:Route)(rests:List Bool)(t:VType)(b:Bool):Sheet×List Int×Int:=
 match (r.visits.zip rests.tail).foldlM (jW x t) (mT r t b,[],[])with
 | .error e=>(aS,[],e)
 | .ok a=>nZ x t b (mT r t b) a
def eG(x:Instance)(r:Route)(rests:List Bool):Sheet×List Int×Int:=
 if(!bX x r||((rests.length:Int) != ((r.visits.length+1:Nat):Int)))=true then(aS,[],2)
 else match x.types[r.type.toNat]? with
 | some t=>Le x r rests t (rests.getD 0 false)
 | none=>(aS,[],2)
theorem rC{x:Instance}{r:Route}(h:bX x r=true):0<=r.type/\r.type<(x.types.length:Int):=by
 unfold bX at h;simp only[Xak,Xbb,Xaf,cC,decide_eq_false_iff_not]at h;omega
theorem O9{α E:Type}{f:E->α->Except Int E}{l:List α}{k:Nat}{x:α}{s b:E}(F:l[k]?=some x)(h:(l.take k).foldlM f s=.ok b):(l.take (k+1)).foldlM f s=f b x:=by
 rw[bQ F,List.foldlM_append,h];show(do let s' <-(Except.ok b:Except Int E);[x].foldlM f s')=_;simp only[List.foldlM_cons,List.foldlM_nil];show(f b x >>= fun s'=>pure s')=_;cases f b x <;> rfl
theorem TY{α E:Type}{f:E->α->Except Int E}{l:List α}{k:Nat}{s:E}{e:Int}(h:(l.take k).foldlM f s=.error e):l.foldlM f s=.error e:=by
 conv=>lhs;rw[<-List.take_append_drop k l]
 rw[List.foldlM_append,h];rfl
theorem pY{H:aK}{i j:Nat}{r:Row}{a b:Option Row}(hi:H i=some r)(E:H j=none):aI (aI H j a) j b i=some r:=by
 have h1:=aP hi E;rw[aF _ _ _ _ h1,aF _ _ _ _ h1,hi]
theorem nR{H:aK}{i j:Nat}{r:Row}{b:Option Row}(hi:H i=some r)(h1:i≠j):aI H j b i=some r:=by rw[aF _ _ _ _ h1,hi]
theorem dD{H:aK}{i j:Nat}{r r':Row}(hi:H i=some r)(E:H j=some r')(h:(r.e == r'.e)=false):i≠j:=fun e=>by
 subst e;rw[hi]at E;injection E with E;rw[E]at h;simp at h
theorem afC{H:aK}{i j k:Nat}{r a:Row}{b c:Option Row}(hi:H i=some r)(E:H j=none)(I:aI H j (some a) k=none):aI (aI (aI H j (some a)) k b) j c i=some r:=by
 have h1:=aP hi E;have F:=aP (eZ (r':=a) hi E) I;rw[aF _ _ _ _ h1,aF _ _ _ _ F,aF _ _ _ _ h1,hi]
theorem MH{l:List Nat}{H J H' F:aK}(U:∀k,k∉l->J k=H k)(I:∀k,k∈l->F k=H k)(E:∀k,k∉l->F k=H' k)(O:∀k row,J k=some row->H' k=some row):∀k row,H k=some row->F k=some row:=fun k row h=>by
 by_cases e:k∈l
 . rw[I k e];exact h
 . rw[E k e];exact O k row ((U k e).trans h)
theorem Fw{l:List Nat}{H':aK}{j:Nat}{r:Row}(E:∀k,k∈l->H' k=none)(h:H' j=some r):j∉l:=fun F=>by rw[E j F]at h;cases h
abbrev JI(s:St8):Row:=⟨386,4,[kU s]⟩
abbrev xK(s:Stop):Row:=⟨109,4,[dV s]⟩
abbrev wO(l:List Tm):Row:=⟨380,4,l.map pX⟩
abbrev nA(l:List Int):Row:=⟨3,1,l.map bW⟩
theorem agR{α E:Type}:∀{l:List α} {m:List E} {k:Nat} {a:α} {b:E},l[k]?=some a->m[k]?=some b->(l.zip m)[k]?=some (a,b):=by
 intro l m k a b h1 F;rw[List.getElem?_zip_eq_some];exact⟨h1,F⟩
theorem ajN{H:aK}{b:Bool}{d e m c:Int}{I E:Nat}{F:List Tm}{dr:List Int}(J:H I=some (wO F))(Rd:H E=some (nA dr)):
   Conv H (.tup [.agg [boo b,int d,.os I,int e,int m],.os E,int c]) (.tup [.agg (bP ⟨b,d,F,e,m⟩),.sl (dr.map bW),int c]):=
 .tup _ _ (.cons _ _ _ _ (.agg _ _ (.cons _ _ _ _ (.refl _) (.cons _ _ _ _ (.refl _) (.cons _ _ _ _ (.row _ _ _ J (ConvE.refl _)) (ConvL.refl _)))))
   (.cons _ _ _ _ (.row _ _ _ Rd (ConvE.refl _)) (ConvL.refl _)))
theorem FO{H:aK}{c:Int}{E:Nat}(Rd:H E=some ⟨3,1,[]⟩):
   Conv H (.tup [.agg [boo false,int 0,.sl [],int 0,int 0],.os E,int c]) (.tup [.agg (bP aS),.sl [],int c]):=
 .tup _ _ (.cons _ _ _ _ (.refl _) (.cons _ _ _ _ (.row _ _ _ Rd .nil) (ConvL.refl _)))
abbrev cP(cs:List AV):Row:=⟨260,5,[cs]⟩
abbrev zeroCells:List AV:=[boo false,int 0,.sl [],int 0,int 0]
theorem akY(x:Instance)(r:Route)(rests:List Bool)(hn:NetB x.net)(hr:r.visits.length<=1048576):PC prog 364 [.agg (aD x),.agg (bT r),.sl (rests.map cR)] (.tup [.agg (bP (eG x r rests).1),.sl ((eG x r rests).2.1.map bW),int (eG x r rests).2.2]):=by
 refine pcb (fun t=>t == 7||t == 12||t == 59) Tryz.func364 ?_;unfold Tryz.f364;simp only[gdS];simp only[go_sem];refine aL fun j6 X=>?_
 have J:=aA bV j6 (some (cP zeroCells));generalize aI bV j6 _=H0 at J |-;clear X;simp only[go_sem];refine aL fun j7 X=>?_
 have R7:=aA H0 j7 (some (⟨3,1,[]⟩:Row));have J:=eZ (r':=(⟨3,1,[]⟩:Row)) J X;generalize aI H0 j7 _=H1 at J R7 |-;clear X;simp only[go_sem];refine PC.use (Cn x r hr) ?_;simp only[go_sem,aT (show r.visits.length<=4611686018427387904 by omega)];refine aB (fun h1=>?_) (fun h1=>?_)
 . simp only[go_sem]
   refine aH J (by simp) ?_;simp only[go_sem];refine aL fun j7 X=>?_
   simp only[go_sem];rw[show eG x r rests=(aS,[],2)by unfold eG;rw[if_pos h1]];have n1:=aP (aA _ _ _) X;simp only[aF _ _ _ _ n1];simp only[go_sem];exact FO (aA _ _ _)
 have hp:bX x r=true:=by
   simp only[Xaf,Xcg]at h1;exact h1.1
 have ba:rests.length=r.visits.length+1:=by
   simp only[Xaf,bne_eq_false_iff_eq]at h1;have:=h1.2;omega
 have bh:=rC hp;obtain⟨t,ht⟩:=aN (show r.type.toNat<x.types.length by omega);obtain⟨b,hb⟩:=aN (show 0<rests.length by omega);have b0:0<=(0:Int)/\(0:Int)<(rests.length:Int):=by omega
 have eR:eG x r rests=Le x r rests t b:=by
   unfold eG;rw[if_neg (by rw[h1];simp),ht];show Le x r rests t (rests.getD 0 false)=_;rw[show rests.getD 0 false=b by rw[List.getD_eq_getElem?_getD,hb];rfl]
 rw[eR];clear eR;simp only[go_sem,aC ht,bh];refine aL fun j9 X=>?_
 simp only[go_sem];refine aH (aA _ _ _) (by simp[jZ]) ?_;generalize U:aI (aI H1 j9 _) j9 _=H2;have V:H2 j9=some (kN t):=by rw[<-U,aA];rfl
 have J:H2 j6=some (cP zeroCells):=by rw[<-U];exact pY J X
 have R7:H2 j7=some ⟨3,1,[]⟩:=by rw[<-U];exact pY R7 X
 clear U X;simp only[go_sem];refine gB [j9] [(0,true),(1,true),(2,true),(3,true),(4,true),(5,true),(6,true),(7,true),(8,true),(9,true),(10,true),(11,true),(12,true),(13,false),(14,false)] (by simp[V]) (by kernel_rfl) fun Hp Hr hp hr _ ag=>?_
 have Rp:Hp j9=_:=(hp j9 (by simp)).trans V;simp only[go_sem,Rp,aC hb,b0];refine⟨_,(PE t ⟨t.src,fP t.start r.start,0,0⟩ b).q rfl,?_⟩;simp only[go_sem];refine aL fun ae X=>?_
 simp only[go_sem];refine aH (aA _ _ _) (by simp[kU]) ?_;simp only[go_sem];refine iO fun hd Hm af Z=>?_
 have E:=MH hr af Z fun k row h=>pY h X
 have F:=(Z ae (Fw hd (aA _ _ _))).trans (aA _ _ _);have F:Hm ae=some (JI (mT r t b)):=F;have J:=E _ _ J;have R7:=E _ _ R7;have V:=E _ _ V;clear E af Z hd X Rp hp hr ag;simp only[go_sem];refine gB [ae] [(0,true),(1,true),(2,true),(3,true),(4,true),(5,true),(6,false),(7,false)] (by simp[F]) (by kernel_rfl) fun Hp Hr hp hr _ ag=>?_
 have Rp:Hp ae=_:=(hp ae (by simp)).trans F;simp only[go_sem,Rp,aC hb,b0];refine aL fun aa X=>?_
 simp only[go_sem];refine Jb 2 380 4 ⟨rfl,by decide⟩ (aA _ _ _) (by simp) fun jt am=>?_
 simp only[go_sem];refine iO fun hd Hm af Z=>?_
 have ah:∀c,aI (aI (aI Hr aa (some (cP zeroCells))) jt (some (⟨380,4,[]⟩:Row))) aa c jt=some (⟨380,4,[]⟩:Row):=fun c=>by
   rw[aF _ _ _ _ (aP (aA _ _ _) am).symm,aA]
 have E:=MH hr af Z fun k row h=>afC h X am
 have I:Hm aa=some (cP [boo b,int (mT r t b).time,.os jt,int 0,int 0]):=(Z aa (Fw hd (aA _ _ _))).trans (aA _ _ _);have O:Hm jt=some (wO []):=(Z jt (Fw hd (ah _))).trans (ah _);have be:=E _ _ J;have a5:j6≠aa:=by
   have:Hr j6=some (cP zeroCells):=(hr j6 (by simpa using dD J F rfl)).trans J;exact aP this X
 have J:=be;have R7:=E _ _ R7;have V:=E _ _ V;have F:=E _ _ F;clear E af Z hd X am Rp hp hr ag ah be;simp only[go_sem];refine aL fun jd X=>?_
 have Rd:=aA Hm jd (some (⟨3,1,[]⟩:Row));have J:=eZ (r':=(⟨3,1,[]⟩:Row)) J X;have R7:=eZ (r':=(⟨3,1,[]⟩:Row)) R7 X;have V:=eZ (r':=(⟨3,1,[]⟩:Row)) V X;have F:=eZ (r':=(⟨3,1,[]⟩:Row)) F X;have I:=eZ (r':=(⟨3,1,[]⟩:Row)) I X;have O:=eZ (r':=(⟨3,1,[]⟩:Row)) O X;generalize aI Hm jd _=Hl at J R7 V F I O Rd |-;clear X;simp only[go_sem];refine ⟨fun ρ H => ∃ (k : Nat) (a : SC) (jt jd : Nat), k <= r.visits.length /\ ((r.visits.zip rests.tail).take k).foldlM (jW x t) (mT r t b, [], []) = .ok a /\ a.2.1.length = k /\ a.2.2.length = k /\
     ρ 2=.sl (rests.map cR)/\ρ 3=.rp (aD x) 0/\ρ 4=.rp (bT r) 0/\ρ 6=.op j6 0 0/\ρ 9=.op j9 0 0/\ρ 10=.op ae 0 0/\ρ 11=.op aa 0 0/\ρ 12=.os jd/\ρ 13=int k /\
     H j6=some (cP zeroCells)/\H j9=some (kN t)/\H ae=some (JI a.1)/\H aa=some (cP [boo b,int (mT r t b).time,.os jt,int 0,int 0])/\H jt=some (wO a.2.2)/\H jd=some (nA a.2.1),
   fun ρ _=>r.visits.length-aV (ρ 13),⟨0,(mT r t b,[],[]),jt,jd,Xab _,rfl,rfl,rfl,rfl,rfl,rfl,rfl,rfl,rfl,rfl,rfl,rfl,J,V,F,I,O,Rd⟩,?_⟩
 clear J R7 V F I O Rd;rintro ρ H ⟨k,a,jt,jd,hk,hf,bf,bg,h2,h3,h4,h6,h9,an,aj,bc,ao,J,V,F,I,O,Rd⟩;simp only[go_sem,h4,ao];refine aB (fun au=>?_) (fun a9=>?_)
 . have au:=aQ au
   obtain⟨v,hv⟩:=aN au;obtain⟨c,hc⟩:=aN (show k+1<rests.length by omega);have b1:=inB au;have b2:=inB (show k+1<rests.length by omega);have hz:(r.visits.zip rests.tail)[k]?=some (v,c):=agR hv (by rw[List.getElem?_tail];exact hc);have ay:=O9 hz hf;simp only[go_sem];refine xM [(0,true),(1,true),(2,true),(3,true),(4,true),(5,true),(6,true),(7,true),(8,true),(9,true),(10,false),(11,false),(12,false)] (by kernel_rfl) ?_;simp only[go_sem,h3,h4,ao,aC hv,b1,cX];refine⟨_,(Qi x v).q rfl,?_⟩;simp only[go_sem];refine aL fun ar X=>?_
   simp only[go_sem];refine aH (aA _ _ _) (by simp[gO]) ?_;generalize U:aI (aI H ar _) ar _=H3;have ac:H3 ar=some (xK (bA x v).1):=by rw[<-U,aA];rfl
   have E:∀i row,H i=some row->H3 i=some row:=fun i row h=>by rw[<-U];exact pY h X
   have J:=E _ _ J;have V:=E _ _ V;have F:=E _ _ F;have I:=E _ _ I;have O:=E _ _ O;have Rd:=E _ _ Rd;clear U E X;simp only[go_sem,h3,h9,an,V,F,ac];refine PC.use (OR x t a.1 (bA x v).1.place (bA x v).1.close 14 hn) ?_;simp only[go_sem];refine aL fun ad X=>?_
   simp only[go_sem];refine aH (aA _ _ _) (by simp[kU]) ?_;generalize U:aI (aI H3 ad _) ad _=H4;have av:=aP F X;have Y:H4 ad=some (JI (iU x t a v).1):=by rw[<-U,aA];rfl
   have E:∀i row,H3 i=some row->H4 i=some row:=fun i row h=>by rw[<-U];exact pY h X
   have J:=E _ _ J;have V:=E _ _ V;have F:=E _ _ F;have I:=E _ _ I;have O:=E _ _ O;have Rd:=E _ _ Rd;have ac:=E _ _ ac;clear U E X;simp only[go_sem];refine aB (fun he=>?_) (fun he=>?_)
   . simp only[go_sem,h6]
     refine aH J (by simp) ?_;simp only[go_sem];refine aL fun j7 X=>?_
     simp only[go_sem];have n1:=aP (aA _ _ _) X;have e:Le x r rests t b=(aS,[],(iU x t a v).2):=by
       unfold Le;rw[TY (ay.trans (if_pos he))]
     rw[e];simp only[go_sem,h6,aF _ _ _ _ n1];exact FO (aA _ _ _)
   have ay:((r.visits.zip rests.tail).take (k+1)).foldlM (jW x t) (mT r t b,[],[])=.ok (lC x t a (v,c)):=ay.trans (if_neg (by rw[show((iU x t a v).2 != 0)=false from he];simp));simp only[go_sem,bc,Y];refine aZ Rd ⟨rfl,rfl⟩ (by simp[cZ]) (by simp only[Xaa,Xad,List.length_nil];omega) fun al ap=>?_
   generalize U:aI (aI H4 jd none) al _=H5;have aq:H5 al=some (nA (lC x t a (v,c)).2.1):=by rw[<-U,aA];simp[lC,bW]
   have E:∀i row,i≠jd->H4 i=some row->H5 i=some row:=fun i row hi h=>by rw[<-U];exact dF h hi.symm ap
   have J:=E _ _ (dD J Rd rfl) J;have V:=E _ _ (dD V Rd rfl) V;have F:=E _ _ (dD F Rd rfl) F;have I:=E _ _ (dD I Rd rfl) I;have O:=E _ _ (dD O Rd rfl) O;have ac:=E _ _ (dD ac Rd rfl) ac;have Y:=E _ _ (dD Y Rd rfl) Y;clear U E ap Rd;simp only[go_sem];refine gB [ad,ar] [(0,true),(1,true),(2,true),(3,true),(4,true),(5,true),(6,true),(7,true),(8,true),(9,true),(10,true),(11,true),(12,true),(13,false),(14,false)] (by simp[Y,ac]) (by kernel_rfl) fun Hp Hr hp hr _ ag=>?_
   have Rp:=(hp ad (by simp)).trans Y;have Rq:=(hp ar (by simp)).trans ac;simp only[go_sem,h2,ao,Rp,Rq,aT (show k<=4611686018427387904 by omega),aC hc,b2];refine aL fun ak X=>?_
   simp only[go_sem];refine aH (aA _ _ _) (by simp) ?_;simp only[go_sem];refine iO fun hd Hm af Z=>?_
   have E:=MH hr af Z fun k row h=>pY h X
   have ab:Hm ak=some ⟨380,4,[[int (iU x t a v).1.time,int (fP (iU x t a v).1.time (bA x v).1.start),int 0,boo c]]⟩:=(Z ak (Fw hd (aA _ _ _))).trans (aA _ _ _);have bb:jt≠ak:=by
     have:Hr jt=some (wO a.2.2):=(hr jt (by simp[dD O Y rfl,dD O ac rfl])).trans O;exact aP this X
   have J:=E _ _ J;have V:=E _ _ V;have F:=E _ _ F;have I:=E _ _ I;have O:=E _ _ O;have Rd:=E _ _ aq;have ac:=E _ _ ac;have Y:=E _ _ Y;clear E af Z hd X hp hr ag Rp Rq;simp only[go_sem,ab,ac];refine dM so3 Y ⟨by simp,rfl,by simp⟩ ?_;generalize U:aI Hm ad _=H6;have a4:H6 ad=some (JI (CK (bA x v).1 (iU x t a v).1)):=by rw[<-U,aA];rfl
   have E:∀i row,i≠ad->Hm i=some row->H6 i=some row:=fun i row hi h=>by rw[<-U];exact nR h hi
   have J:=E _ _ (dD J Y rfl) J;have V:=E _ _ (dD V Y rfl) V;have F:=E _ _ av F;have I:=E _ _ (dD I Y rfl) I;have O:=E _ _ (dD O Y rfl) O;have Rd:=E _ _ (dD Rd Y rfl) Rd;have ab:=E _ _ (dD ab Y rfl) ab;have Y:=a4;clear U E ac a4;simp only[go_sem];refine gB [j9,ad] [(0,true),(1,true),(2,true),(3,true),(4,true),(5,true),(6,true),(7,true),(8,false)] (by simp[Y,V]) (by kernel_rfl) fun Hp Hr hp hr _ ag=>?_
   have Rp:=(hp j9 (by simp)).trans V;have Rq:=(hp ad (by simp)).trans Y;have a8:ae∉[j9,ad]:=by simp[av,dD F V rfl]
   simp only[go_sem,h2,h9,an,ao,Rp,Rq,aT (show k<=4611686018427387904 by omega),aC hc,b2];refine⟨_,(PE t (CK (bA x v).1 (iU x t a v).1) c).q rfl,?_⟩;simp only[go_sem,an];refine aH ((hr _ a8).trans F) (by simp[kU]) ?_;simp only[go_sem];refine iO fun hd Hn af Z=>?_
   have az:Hn ae=some (JI (lC x t a (v,c)).1):=(Z ae a8).trans (aA _ _ _);have E:∀i row,i≠ae->H6 i=some row->Hn i=some row:=fun i row hi h=>by
     by_cases e:i∈[j9,ad]
     . rw[af i e];exact h
     . rw[Z i e];exact nR ((hr i e).trans h) hi
   have J:=E _ _ (dD J F rfl) J;have V:=E _ _ (dD V F rfl) V;have I:=E _ _ (dD I F rfl) I;have O:=E _ _ (dD O F rfl) O;have Rd:=E _ _ (dD Rd F rfl) Rd;have ab:=E _ _ (dD ab F rfl) ab;have F:=az;clear E af Z hd hp hr ag Rp Rq a8 Y az;simp only[go_sem,an,F];refine dM so3 ab ⟨by simp,rfl,by simp⟩ ?_;generalize U:aI Hn ak _=H7;have a0:H7 ak=some ⟨380,4,[pX ⟨(iU x t a v).1.time,fP (iU x t a v).1.time (bA x v).1.start,(lC x t a (v,c)).1.time,c⟩]⟩:=by rw[<-U,aA];rfl
   have E:∀i row,i≠ak->Hn i=some row->H7 i=some row:=fun i row hi h=>by rw[<-U];exact nR h hi
   have J:=E _ _ (dD J ab rfl) J;have V:=E _ _ (dD V ab rfl) V;have F:=E _ _ (dD F ab rfl) F;have I:=E _ _ (dD I ab rfl) I;have O:=E _ _ bb O;have Rd:=E _ _ (dD Rd ab rfl) Rd;clear U E ab;simp only[go_sem,aj,I,a0];refine aZ O ⟨rfl,rfl⟩ (by simp[cZ,pX]) (by simp only[Xaa,Xad,List.length_nil];omega) fun ax am=>?_
   generalize U:aI (aI H7 jt none) ax _=H8;have bd:H8 ax=some (wO (lC x t a (v,c)).2.2):=by rw[<-U,aA];simp[lC,pX]
   have E:∀i row,i≠jt->H7 i=some row->H8 i=some row:=fun i row hi h=>by rw[<-U];exact dF h hi.symm am
   have J:=E _ _ (dD J O rfl) J;have V:=E _ _ (dD V O rfl) V;have F:=E _ _ (dD F O rfl) F;have I:=E _ _ (dD I O rfl) I;have Rd:=E _ _ (dD Rd O rfl) Rd;clear U E am O a0;simp only[go_sem,aj];refine dM U8 I ⟨by simp,rfl,by simp⟩ ?_;generalize U:aI H8 aa _=H9;have aw:H9 aa=some (cP [boo b,int (mT r t b).time,.os ax,int 0,int 0]):=by rw[<-U,aA];rfl
   have E:∀i row,i≠aa->H8 i=some row->H9 i=some row:=fun i row hi h=>by rw[<-U];exact nR h hi
   have J:=E _ _ a5 J;have V:=E _ _ (dD V I rfl) V;have F:=E _ _ (dD F I rfl) F;have O:=E _ _ (dD bd I rfl) bd;have Rd:=E _ _ (dD Rd I rfl) Rd;clear U E I;simp only[go_sem,ao,aT (show k<=4611686018427387904 by omega)];refine⟨⟨k+1,lC x t a (v,c),ax,al,au,ay,by simp[lC,bf],by simp[lC,bg],h2,h3,h4,h6,h9,an,aj,rfl,rfl,J,V,F,aw,O,Rd⟩,by simp only[aE];omega⟩
 . have a9:=aR hk a9
   subst a9;have hf:(r.visits.zip rests.tail).foldlM (jW x t) (mT r t b,[],[])=.ok a:=by
     rw[Xap (by simp[ba])]at hf;exact hf
   have eO:Le x r rests t b=nZ x t b (mT r t b) a:=by unfold Le;rw[hf]
   rw[eO];simp only[go_sem,h3,h9,an,V,F];refine PC.use (OR x t a.1 t.dst t.close 15 hn) ?_;simp only[go_sem];refine aL fun a7 X=>?_
   simp only[go_sem];refine aH (aA _ _ _) (by simp[kU]) ?_;generalize U:aI (aI H a7 _) a7 _=H3;have ai:H3 a7=some (JI (fU x t a.1 t.dst t.close 15).1):=by rw[<-U,aA];rfl
   have E:∀i row,H i=some row->H3 i=some row:=fun i row h=>by rw[<-U];exact pY h X
   have J:=E _ _ J;have I:=E _ _ I;have O:=E _ _ O;have Rd:=E _ _ Rd;clear U E X V F;simp only[go_sem];refine aB (fun he=>?_) (fun he=>?_)
   . simp only[go_sem,h6]
     refine aH J (by simp) ?_;simp only[go_sem];refine aL fun j7 X=>?_
     simp only[go_sem];have n1:=aP (aA _ _ _) X;rw[show nZ x t b (mT r t b) a=(aS,[],(fU x t a.1 t.dst t.close 15).2)from if_pos he];simp only[go_sem,h6,aF _ _ _ _ n1];exact FO (aA _ _ _)
   rw[show nZ x t b (mT r t b) a=_ from if_neg (by rw[he];simp)];simp only[go_sem,bc,ai];refine aZ Rd ⟨rfl,rfl⟩ (by simp[cZ]) (by simp only[Xaa,Xad,List.length_nil];omega) fun al ap=>?_
   generalize U:aI (aI H3 jd none) al _=H5;have aq:H5 al=some (nA (a.2.1++[(fU x t a.1 t.dst t.close 15).1.driven])):=by rw[<-U,aA];simp[bW]
   have E:∀i row,i≠jd->H3 i=some row->H5 i=some row:=fun i row hi h=>by rw[<-U];exact dF h hi.symm ap
   have J:=E _ _ (dD J Rd rfl) J;have I:=E _ _ (dD I Rd rfl) I;have O:=E _ _ (dD O Rd rfl) O;have ai:=E _ _ (dD ai Rd rfl) ai;clear U E ap Rd;simp only[go_sem,aj,ai];refine dM so3 I ⟨by simp,rfl,by simp⟩ ?_;have a6:=dD ai I rfl;simp only[go_sem,ai,aj,aF _ _ _ _ a6];refine dM so3 (aA _ _ _) ⟨by simp,rfl,by simp⟩ ?_;generalize U:aI (aI H5 aa _) aa _=H6;have aw:H6 aa=some (cP [boo b,int (mT r t b).time,.os jt,int (fU x t a.1 t.dst t.close 15).1.time,int (fU x t a.1 t.dst t.close 15).1.miles]):=by rw[<-U,aA];rfl
   have E:∀i row,i≠aa->H5 i=some row->H6 i=some row:=fun i row hi h=>by rw[<-U];exact nR (nR h hi) hi
   have J:=E _ _ a5 J;have O:=E _ _ (dD O I rfl) O;have Rd:=E _ _ (dD aq I rfl) aq;clear U E I aq;simp only[go_sem,h6,aj,aw];refine aH J (by simp) ?_;simp only[go_sem,h6];exact ajN (nR O (dD O J rfl)) (nR Rd (dD Rd J rfl))
theorem Vw(x:Instance)(r:Route)(rests:List Bool)(J:NetB x.net)(O:r.visits.length<=1048576):PC prog 334 [.agg (aD x),.agg (bT r),.sl (rests.map cR)] (.tup [.agg (bP (eG x r rests).1),int (eG x r rests).2.2]):=by
 refine pcd Tryz.func334 ?_;unfold Tryz.f334;simp only[gdS];simp only[go_sem];refine aL fun F E=>?_
 have I:=aA bV F (some (cP zeroCells));generalize aI bV F _=H0 at I |-;clear E;simp only[go_sem];refine PC.use (akY x r rests J O) ?_;simp only[go_sem];refine aL fun U E=>?_
 simp only[go_sem];refine aH (aA _ _ _) (by simp[bP]) ?_;simp only[go_sem];refine aH (pY I E) (by simp[bP]) ?_;simp only[go_sem];exact .refl _
def nE(n:Nat):Nat->List Bool->List Bool×Bool
 | 0,_=>([],false)
 | k+1,l=>if n<=k then(if l.getD k false=true then nE n k (l.set k false)else(l.set k true,true))else([],false)
def iT(l:List Bool)(n:Nat):List Bool×Bool:=nE n l.length l
def CI:List Bool->Nat
 | []=>0
 | b::r=>(if b=true then 2^r.length else 0)+CI r
theorem T6:∀l,CI l<2^l.length
 | []=>by simp[CI]
 | b::r=>by
   have:=T6 r;simp only[CI,Xad,Xbj];split <;> omega
theorem NX:∀(l:List Bool) (k:Nat) (b:Bool),l[k]?=some b->CI (l.set k (!b))+(if b=true then 2^(l.length-1-k)else 0)=CI l+(if b=true then 0 else 2^(l.length-1-k))
 | [],k,b,h=>by simp at h
 | a::r,0,b,h=>by
   have e:a=b:=by simpa using h
   subst e;cases a <;> simp[CI] <;> omega
 | a::r,k+1,b,h=>by
   have:=NX r k b (by simpa using h);simp only[List.set_cons_succ,CI,List.length_set,Xad];rw[show r.length+1-1-(k+1)=r.length-1-k by omega];cases b <;> simp at this |- <;> omega
theorem AD(n:Nat):∀(k:Nat) (l:List Bool),k<=l.length->(nE n k l).2=true->(nE n k l).1.length=l.length/\CI (nE n k l).1=CI l+2^(l.length-k)
 | 0,l,_,h=>by simp[nE]at h
 | k+1,l,hk,h=>by
   obtain⟨b,I⟩:=aN (show k<l.length by omega);have E:=NX l k b I;have U:l.getD k false=b:=by rw[List.getD_eq_getElem?_getD,I];rfl
   have F:2^(l.length-k)=2*2^(l.length-(k+1)):=by rw[show l.length-k=(l.length-(k+1))+1 by omega,Xbj];omega
   have O:l.length-1-k=l.length-(k+1):=by omega
   rw[O]at E;unfold nE at h |-;rw[U]at h |-;by_cases J:n<=k
   . rw[if_pos J]at h |-
     cases b
     . simp only[Xax,if_false]at h |- E
       refine⟨by simp,?_⟩;simpa using E
     . simp only[if_true]at h |- E
       have ih:=AD n k (l.set k false) (by simp;omega) h;simp only[List.length_set]at ih;refine⟨ih.1,?_⟩;rw[ih.2,F];simp only[Xby]at E;omega
   . rw[if_neg J]at h;simp at h
def aaC:AV->Nat
 | .v (.int _ n)=>(n+1).toNat
 | _=>0
theorem TM{k n}:aaC (.v (.int k n))=(n+1).toNat:=(rfl)
theorem DN:∀l:List Bool,cZ 1 (l.map cR)
 | []=>trivial
 | _::r=>⟨rfl,DN r⟩
abbrev A5(l:List Bool):Row:=⟨4,1,l.map cR⟩
theorem Ny(l0:List Bool)(n:Nat)(hl:l0.length<=1048577):PC prog 335 [.sl (l0.map cR),int n] (.tup [.sl ((iT l0 n).1.map cR),boo (iT l0 n).2]):=by
 refine pcb (fun t=>t == 4||t == 6) Tryz.func335 ?_;unfold Tryz.f335;simp only[gdS];simp only[go_sem];refine aL fun j4 V=>?_
 simp only[go_sem];refine aL fun j6 X=>?_
 simp only[go_sem];refine aZ (aA _ _ _) ⟨rfl,rfl⟩ (DN _) (by simp only[Xaa,List.length_nil];omega) fun j hj=>?_
 generalize hG:aI (aI (aI (aI bV j4 _) j6 _) j6 none) j _=H0;have R:H0 j=some (A5 l0):=by rw[<-hG,aA];rfl
 clear hG hj V X;have w1:IntKind.i64.wrap ((l0.length:Int)-1)=(l0.length:Int)-1:=bH (by omega);simp only[go_sem,R,w1];refine⟨fun ρ H=>∃(k:Nat) (l:List Bool),k<=l.length/\l.length=l0.length/\nE n k l=iT l0 n/\ρ 1=int n/\ρ 6=.os j/\ρ 7=int ((k:Int)-1)/\H j=some (A5 l),fun ρ _=>aaC (ρ 7),⟨l0.length,l0,Xah _,rfl,rfl,rfl,rfl,rfl,R⟩,?_⟩;clear R;rintro ρ H ⟨k,l,hk,aa,E,h1,F,J,R⟩;cases k with
 | zero=>
   simp only[go_sem,h1,F,J];refine aB (fun U=>by simp at U;omega) (fun _=>?_);simp only[go_sem];refine aL fun j' Y=>?_
   simp only[go_sem];rw[<-E];exact .tup _ _ (.cons _ _ _ _ (.row _ _ _ (aA _ _ _) .nil) (ConvL.refl _))
 | succ k=>
   rw[show((k+1:Nat):Int)-1=(k:Int)by omega]at J;simp only[go_sem,h1,F,J];obtain⟨b,U⟩:=aN (show k<l.length by omega);have Z:l.getD k false=b:=by rw[List.getD_eq_getElem?_getD,U];rfl
   have b1:=inB (show k<l.length by omega);refine aB (fun I=>?_) (fun O=>?_)
   . have I:n<=k:=by simpa using I
     unfold nE at E;rw[if_pos I,Z]at E;simp only[go_sem,h1,F,J,R,aC U,b1,show k<l.length from by omega];refine aB (fun hc=>?_) (fun hc=>?_)
     . simp only[go_sem,F,J,R,b1,show k<l.length from by omega]
       refine dM so4 R ⟨by simp;omega,rfl,by simp⟩ ?_;simp only[go_sem,F];rw[if_neg (by simpa using hc)]at E;rw[<-E];refine .tup _ _ (.cons _ _ _ _ (.row _ _ _ (aA _ _ _) ?_) (ConvL.refl _));have:((A5 l).es.set k (nH ((A5 l).es.getD k []) 0 [boo true]))=(l.set k true).map cR:=by
         show(l.map cR).set k (nH ((l.map cR).getD k []) 0 [boo true])=_;rw[aC U,List.map_set];rfl
       first|(rw[this];exact ConvE.refl _)|exact this▸ConvE.refl _
     . simp only[go_sem,F,J,R,b1,show k<l.length from by omega]
       refine dM so4 R ⟨by simp;omega,rfl,by simp⟩ ?_;rw[if_pos (by simpa using hc)]at E;have w2:IntKind.i64.wrap ((k:Int)-1)=(k:Int)-1:=bH (by omega);simp only[go_sem,J,w2];refine⟨⟨k,l.set k false,by simp;omega,by simpa using aa,E,h1,F,rfl,?_⟩,by simp only[TM];omega⟩;show some (⟨4,1,(l.map cR).set k (nH ((l.map cR).getD k []) 0 [boo false])⟩:Row)=some (⟨4,1,(l.set k false).map cR⟩:Row);rw[aC U,List.map_set];rfl
   . have O:¬n<=k:=by simpa using O
     unfold nE at E;rw[if_neg O]at E;simp only[go_sem];refine aL fun j' Y=>?_
     simp only[go_sem];rw[<-E];exact .tup _ _ (.cons _ _ _ _ (.row _ _ _ (aA _ _ _) .nil) (ConvL.refl _))
def gX(x:Instance)(r:Route)(c:List Bool)(b:Sheet×Bool):Sheet×Bool:=
 if((eG x r c).2.2 == 0&&(!b.2||decide ((eG x r c).1.end_<b.1.end_)))=true then((eG x r c).1,true)else b
def oV(x:Instance)(r:Route)(m:Nat):Nat->List Bool×Bool->Sheet×Bool->Sheet×Bool
 | 0,_,b=>b
 | f+1,c,b=>if c.2=true then oV x r m f (iT c.1 m) (gX x r c.1 b)else b
def wW(c:List Bool×Bool):Nat:=if c.2=true then 2^c.1.length-CI c.1 else 0
def cM(r:Route):List Bool:=r.rests++List.replicate (r.visits.length+1-r.rests.length) false
def CX(b:Sheet×Bool)(first:Int):Sheet×Int:=if b.2=true then(b.1,0)else(aS,first)
def kO(x:Instance)(r:Route):Sheet×Int:=
 if(!bX x r||decide ((r.rests.length:Int)>((r.visits.length+1:Nat):Int)))=true then(aS,2)
 else CX (oV x r r.rests.length (wW (iT (cM r) r.rests.length)) (iT (cM r) r.rests.length) ((eG x r (cM r)).1,(eG x r (cM r)).2.2 == 0)) (eG x r (cM r)).2.2
theorem vF{x:Instance}{r:Route}{m:Nat}{c:List Bool×Bool}{b:Sheet×Bool}(h:c.2=false):∀f,oV x r m f c b=b
 | 0=>rfl
 | f+1=>by unfold oV;rw[if_neg (by rw[h];simp)]
theorem Am{x:Instance}{r:Route}{m:Nat}{c:List Bool×Bool}{b:Sheet×Bool}(h:c.2=true):oV x r m (wW c) c b=oV x r m (wW (iT c.1 m)) (iT c.1 m) (gX x r c.1 b)/\wW (iT c.1 m)<wW c/\((iT c.1 m).2=true->(iT c.1 m).1.length=c.1.length):=by
 have O:=T6 c.1;have e:wW c=(2^c.1.length-CI c.1-1)+1:=by unfold wW;rw[if_pos h];omega
 have I:oV x r m (wW c) c b=oV x r m (2^c.1.length-CI c.1-1) (iT c.1 m) (gX x r c.1 b):=by
   rw[e];conv=>lhs;unfold oV
   rw[if_pos h]
 cases E:(iT c.1 m).2 with
 | false=>
   refine⟨by rw[I,vF E,vF E],?_,fun h=>by cases h⟩;have:wW (iT c.1 m)=0:=by unfold wW;rw[E];rfl
   omega
 | true=>
   have F:=AD m c.1.length c.1 (Xah _) E;rw[Nat.sub_self]at F;have J:wW (iT c.1 m)=2^c.1.length-CI c.1-1:=by
     unfold wW;rw[E,if_pos rfl];unfold iT;rw[F.1,F.2];omega
   exact⟨by rw[I,J],by omega,fun _=>F.1⟩
def Mw:AV->Bool
 | .v (.bool b)=>b
 | _=>false
def Fv:AV->List Bool
 | .sl es=>es.map fun c=>Mw (c.getD 0 .any)
 | _=>[]
theorem Ar(l:List Bool):Fv (.sl (l.map cR))=l:=by
 simp[Fv,cR,Mw,Function.comp_def]
abbrev Hy(s:Sheet):Row:=⟨260,5,[bP s]⟩
theorem hY(s:Sheet):(bP s).length=5:=(rfl)
theorem BR(s:Sheet):(bP s).getD 3 .any=int s.end_:=(rfl)
theorem B9(s:Sheet):(bP s).getD 4 .any=int s.miles:=(rfl)
theorem yW(s:Sheet):(bP s).take 5=bP s:=(rfl)
attribute [go_sem] BR B9 yW
theorem G7{a:List Bool}{n:Nat}(h:a.length<=n):((List.replicate n [boo false]).take 0++(a.map cR).take (min (a.map cR).length (List.replicate n [boo false]).length))++(List.replicate n [boo false]).drop (0+min (a.map cR).length (List.replicate n [boo false]).length)=(a++List.replicate (n-a.length) false).map cR:=by
 have e:min (a.map cR).length (List.replicate n [boo false]).length=a.length:=by simp;omega
 rw[e,List.take_zero,Xbr,Xck,Xap (by simp),List.drop_replicate,Xar,List.map_replicate];rfl
theorem abH(x:Instance)(r:Route)(hn:NetB x.net)(hr:r.visits.length<=1048576):PC prog 290 [.agg (aD x),.agg (bT r)] (.tup [.agg (bP (kO x r).1),int (kO x r).2]):=by
 refine pcb (fun t=>t == 39) Tryz.func290 ?_;unfold Tryz.f290;simp only[gdS];simp only[go_sem];refine aL fun V J=>?_
 have E:=aA bV V (some (cP zeroCells));generalize aI bV V _=H0 at E |-;clear J;simp only[go_sem,aT (show r.visits.length<=4611686018427387904 by omega)];refine PC.use (Cn x r hr) ?_;simp only[go_sem];refine aB (fun h1=>?_) (fun h1=>?_)
 . simp only[go_sem]
   refine aH E (by simp) ?_;simp only[go_sem];rw[show kO x r=(aS,2)from if_pos h1];exact .refl _
 have hm:r.rests.length<=r.visits.length+1:=by
   simp only[Xaf,decide_eq_false_iff_not]at h1;omega
 rw[show kO x r=_ from if_neg (by rw[h1];simp)];simp only[go_sem];refine⟨by omega,?_⟩;refine aL fun j7 J=>?_
 simp only[go_sem];refine UU anD (aA _ _ _) (.inl ⟨rfl,rfl,rfl⟩) (.inl rfl) rfl (DN _) ?_;generalize U:aI (aI H0 j7 _) j7 _=H1;have ag:=aP E J;have R7:H1 j7=some (A5 (cM r)):=by
   rw[<-U,aA];exact congrArg (fun es=>some (⟨4,1,es⟩:Row)) (G7 hm)
 have E:H1 V=some (cP zeroCells):=by rw[<-U];exact pY E J
 clear U J;simp only[go_sem];refine Bc (by simp only[go_sem]) R7 fun H2 _ hH=>?_
 have E:=(hH V ag).trans E;clear hH R7 ag;simp only[go_sem];refine PC.use (Vw x r (cM r) hn hr) ?_;simp only[go_sem];refine aL fun Z J=>?_
 simp only[go_sem];refine aH (aA _ _ _) (by simp[bP]) ?_;have aj:=aP E J;generalize U:aI (aI H2 Z _) Z _=H3;have I:H3 Z=some (Hy (eG x r (cM r)).1):=by rw[<-U,aA];rfl
 have E:H3 V=some (cP zeroCells):=by rw[<-U];exact pY E J
 clear U J;simp only[go_sem];have al:(cM r).length=r.visits.length+1:=by simp[cM];omega
 refine PC.use (Ny (cM r) r.rests.length (by omega)) ?_;simp only[go_sem];generalize ai:(eG x r (cM r)).2.2=first
 generalize ah:((eG x r (cM r)).1,first == 0)=b0;generalize ak:iT (cM r) r.rests.length=c0;have ae:c0.2=true->c0.1.length=r.visits.length+1:=fun h=>by
   rw[<-ak]at h |-;rw[<-al];exact(AD r.rests.length (cM r).length (cM r) (Xah _) h).1
 have e1:(eG x r (cM r)).1=b0.1:=by rw[<-ah]
 have e2:(first == 0)=b0.2:=by rw[<-ah]
 rw[e1]at I;rw[e2];refine ⟨fun ρ H => ∃ (c : List Bool × Bool) (b : Sheet × Bool), oV x r r.rests.length (wW c) c b = oV x r r.rests.length (wW c0) c0 b0 /\ (c.2 = true -> c.1.length = r.visits.length + 1) /\
     ρ 2=.rp (aD x) 0/\ρ 3=.rp (bT r) 0/\ρ 4=.op V 0 0/\ρ 7=.sl (c.1.map cR)/\ρ 8=.op Z 0 0/\ρ 9=int first/\ρ 10=boo b.2/\ρ 11=boo c.2/\H V=some (cP zeroCells)/\H Z=some (Hy b.1),
   fun ρ _=>wW (Fv (ρ 7),Mw (ρ 11)),⟨c0,b0,rfl,ae,rfl,rfl,rfl,rfl,rfl,rfl,rfl,rfl,E,I⟩,?_⟩
 clear E I;rintro ρ H ⟨c,b,hg,af,h2,h3,X,h7,Y,h9,O,ab,E,I⟩;have an:wW (Fv (ρ 7),Mw (ρ 11))=wW c:=by rw[h7,ab,Ar];rfl
 simp only[go_sem,ab];refine aB (fun hc=>?_) (fun hc=>?_)
 . obtain⟨s1,s2,s3⟩:=Am (x:=x) (r:=r) (m:=r.rests.length) (b:=b) hc
   simp only[go_sem,h2,h3,h7];refine PC.use (Vw x r c.1 hn hr) ?_;simp only[go_sem];refine aL fun ac J=>?_
   simp only[go_sem];refine aH (aA _ _ _) (by simp[bP]) ?_;generalize U:aI (aI H ac _) ac _=H4;have aa:H4 ac=some (Hy (eG x r c.1).1):=by rw[<-U,aA];rfl
   have E:H4 V=some (cP zeroCells):=by rw[<-U];exact pY E J
   have am:=(aP I J).symm;have I:H4 Z=some (Hy b.1):=by rw[<-U];exact pY I J
   clear U J;simp only[go_sem,Y,O,I,aa];refine bK (fun F H'=>F 2=.rp (aD x) 0/\F 3=.rp (bT r) 0/\F 4=.op V 0 0/\F 7=.sl (c.1.map cR)/\F 8=.op Z 0 0/\F 9=int first/\F 10=boo (gX x r c.1 b).2/\H' V=some (cP zeroCells)/\H' Z=some (Hy (gX x r c.1 b).1)) ?_ fun K hK=>aB (fun hb=>?_) (fun hb=>?_)
   . clear E I aa h2 h3 X h7 Y h9 O ab
     rintro ρ H ⟨h2,h3,X,h7,Y,h9,O,E,I⟩;simp only[go_sem,h3,h7];refine PC.use (Ny c.1 r.rests.length (by have:=af hc;omega)) ?_;simp only[go_sem];refine⟨⟨iT c.1 r.rests.length,gX x r c.1 b,by rw[<-s1];exact hg,fun h=>(s3 h).trans (af hc),h2,h3,X,rfl,Y,h9,O,rfl,E,I⟩,?_⟩;rw[Ar,Ar];exact s2
   . simp only[go_sem,Y,aa]
     refine aH I (by simp[bP]) ?_;simp only[go_sem];have e:gX x r c.1 b=((eG x r c.1).1,true):=if_pos hb;rw[e]at hK;refine hK _ _ ⟨by simp only[go_sem,h2],by simp only[go_sem,h3],by simp only[go_sem,X],by simp only[go_sem,h7],by simp only[go_sem,Y],by simp only[go_sem,h9],by simp only[go_sem],?_,?_⟩
     . exact nR E aj
     . rw[aA];rfl
   . simp only[go_sem]
     have e:gX x r c.1 b=b:=if_neg (by rw[show((eG x r c.1).2.2 == 0&&(!b.2||decide ((eG x r c.1).1.end_<b.1.end_)))=false from hb];simp);rw[e]at hK;exact hK _ _ ⟨by simp only[go_sem,h2],by simp only[go_sem,h3],by simp only[go_sem,X],by simp only[go_sem,h7],by simp only[go_sem,Y],by simp only[go_sem,h9],by simp only[go_sem,O],E,I⟩
 . have ad:oV x r r.rests.length (wW c) c b=b:=vF hc _
   rw[<-hg,ad];simp only[go_sem,O];refine aB (fun hb=>?_) (fun hb=>?_)
   . simp only[go_sem,X,h9]
     refine aH E (by simp) ?_;simp only[go_sem,X];rw[show CX b first=(aS,first)from if_neg (by simpa using hb)];exact .refl _
   . simp only[go_sem,X,Y,I]
     refine aH E (by simp[bP]) ?_;simp only[go_sem,X];rw[show CX b first=(b.1,0)from if_pos (by simpa using hb)];exact .refl _
theorem jX(s:Score):(cD s).length=4:=(rfl)
theorem yC(s:Score):(cD s).getD 0 .any=int s.cost:=(rfl)
theorem xL(s:Score):(cD s).getD 1 .any=int s.moved:=(rfl)
theorem zF(s:Score):(cD s).getD 2 .any=int s.other:=(rfl)
theorem yE(s:Score):(cD s).getD 3 .any=int s.work:=(rfl)
theorem sF(s:Score):(cD s).take 4=cD s:=(rfl)
attribute [go_sem] hY Q8 jX yC xL zF yE sF
abbrev mG(s:Score):Row:=⟨262,4,[cD s]⟩
def G5(o:Order)(t:Int):Bool:=o.now != -1&&o.now != t
def Hi(o:Order)(t:Int):Bool:=o.last != -1&&o.last != t
def zP(o:Order)(t:Int)(a:Score):Score:=if G5 o t=true then⟨a.cost,W (a.moved+1),a.other,a.work⟩else a
def xI(o:Order)(t:Int)(a:Score):Score:=if Hi o t=true then⟨a.cost,a.moved,W (a.other+1),a.work⟩else a
def fG(x:Instance)(r:Route)(a:Score)(i:Nat):Score:=
 if(cC (dB r.visits i) x.orders.length|| !mC r.visits i)=true then a
 else match x.orders[(dB r.visits i).toNat]? with
 | some o=>xI o r.type (zP o r.type a)
 | none=>a
def tE(t:VType)(s:Sheet):Score:=
 ⟨W (W (t.fixed+W (t.perMile*s.miles))+W (t.perTick*W (s.end_-t.start))),0,0,
   W (W (Int.tdiv (W (s.end_-t.start)) 64)*W (Int.tdiv (W (s.end_-t.start)) 64))⟩
def QF(x:Instance)(r:Route)(s:Sheet)(t:VType):Score:=(List.range r.visits.length).foldl (fG x r) (tE t s)
def lG(x:Instance)(r:Route)(s:Sheet):Score:=
 if cC r.type x.types.length=true then cH else match x.types[r.type.toNat]? with
 | some t=>QF x r s t
 | none=>cH
theorem XS(x:Instance)(r:Route)(s:Sheet)(hr:r.visits.length<=1048576):PC prog 291 [.agg (aD x),.agg (bT r),.agg (bP s)] (.agg (cD (lG x r s))):=by
 refine pcd Tryz.func291 ?_;unfold Tryz.f291;simp only[gdS];simp only[go_sem];refine aL fun Z hj=>?_
 have I:=aA bV Z (some (⟨262,4,[[int 0,int 0,int 0,int 0]]⟩:Row));generalize aI bV Z _=H0 at I |-;clear hj;simp only[go_sem];refine aB (fun h1=>?_) (fun h1=>?_)
 . simp only[go_sem]
   refine aH I (by simp) ?_;simp only[go_sem];rw[show lG x r s=cH from if_pos h1];exact .refl _
 have ae:0<=r.type/\r.type<(x.types.length:Int):=by
   simp only[Xaf,decide_eq_false_iff_not]at h1;omega
 obtain⟨t,ht⟩:=aN (show r.type.toNat<x.types.length by omega);rw[show lG x r s=QF x r s t by unfold lG;rw[if_neg (by rw[show cC r.type x.types.length=false from h1];simp),ht]];simp only[go_sem,aC ht,ae];refine aL fun j7 hj=>?_
 simp only[go_sem];refine aH (aA _ _ _) (by simp[jZ]) ?_;generalize hG:aI (aI H0 j7 _) j7 _=H1;have R7:H1 j7=some (kN t):=by rw[<-hG,aA];rfl
 have I:H1 Z=some (⟨262,4,[[int 0,int 0,int 0,int 0]]⟩:Row):=by rw[<-hG];exact pY I hj
 clear hG hj;simp only[go_sem,R7];refine⟨by decide,by decide,?_⟩;refine aL fun j9 hj=>?_
 simp only[go_sem];refine aH (aA _ _ _) (by simp) ?_;have ad:=aP I hj;generalize hG:aI (aI H1 j9 _) j9 _=H2;have J:H2 j9=some (mG (tE t s)):=by rw[<-hG,aA];rfl
 have I:H2 Z=some (⟨262,4,[[int 0,int 0,int 0,int 0]]⟩:Row):=by rw[<-hG];exact pY I hj
 clear hG hj R7;simp only[go_sem];refine ⟨fun ρ H => ∃ k : Nat, k <= r.visits.length /\ ρ 3 = .rp (aD x) 0 /\ ρ 4 = .rp (bT r) 0 /\ ρ 6 = .op Z 0 0 /\ ρ 9 = .op j9 0 0 /\ ρ 10 = int k /\ H Z = some (⟨262, 4, [[int 0, int 0, int 0, int 0]]⟩ : Row) /\
     H j9=some (mG (((List.range r.visits.length).take k).foldl (fG x r) (tE t s))),fun ρ _=>r.visits.length-aV (ρ 10),⟨0,Xab _,rfl,rfl,rfl,rfl,rfl,I,J⟩,?_⟩
 clear I J;rintro ρ H ⟨k,hk,X,U,Y,V,F,I,J⟩;simp only[go_sem,U,F];refine aB (fun O=>?_) (fun aa=>?_)
 . have O:=aQ O
   obtain⟨v,hv⟩:=aN O;have b1:=inB O;have hs:((List.range r.visits.length).take (k+1)).foldl (fG x r) (tE t s)=fG x r (((List.range r.visits.length).take k).foldl (fG x r) (tE t s)) k:=by
     rw[bQ (gL O),Xbh];rfl
   generalize hA:((List.range r.visits.length).take k).foldl (fG x r) (tE t s)=A at J hs;have ev:dB r.visits k=v.order:=fZ hv;simp only[go_sem,X,U,F,aC hv,b1];refine⟨_,fun _=>(SP r.visits k hr O).q rfl,?_⟩;simp only[go_sem];refine aB (fun h2=>?_) (fun h2=>?_)
   . have e:fG x r A k=A:=by unfold fG;rw[ev,if_pos (show(cC v.order x.orders.length|| !mC r.visits k)=true from h2)]
     simp only[go_sem,F,aT (show k<=4611686018427387904 by omega)];exact⟨⟨k+1,O,X,U,Y,V,rfl,I,by rw[hs,e];exact J⟩,by simp only[aE];omega⟩
   have af:cC v.order x.orders.length=false:=(Xaf.1 h2).1;have ac:0<=v.order/\v.order<(x.orders.length:Int):=by
     have:=af;simp only[cC,Xaf,decide_eq_false_iff_not]at this;omega
   obtain⟨o,ho⟩:=aN (show v.order.toNat<x.orders.length by omega);have e:fG x r A k=xI o r.type (zP o r.type A):=by
     unfold fG;rw[ev,if_neg (by rw[show(cC v.order x.orders.length|| !mC r.visits k)=false from h2];simp),ho]
   rw[e]at hs;simp only[go_sem];refine cN (by rfl) (by kernel_rfl) ?_;simp only[go_sem,X,U,aC ho,ac];refine bK (fun E H'=>E 3=.rp (aD x) 0/\E 4=.rp (bT r) 0/\E 6=.op Z 0 0/\E 9=.op j9 0 0/\E 10=int k/\E 11=int v.order/\H' Z=some (⟨262,4,[[int 0,int 0,int 0,int 0]]⟩:Row)/\H' j9=some (mG (zP o r.type A))) ?_ fun K hK=>aB (fun hb=>?_) (fun hb=>?_)
   . clear I J X U Y V F
     rintro ρ H ⟨X,U,Y,V,F,ab,I,J⟩;simp only[go_sem];refine cN (by rfl) (by kernel_rfl) ?_;simp only[go_sem,X,U,ab,aC ho,ac];refine gA (fun E H'=>E 3=.rp (aD x) 0/\E 4=.rp (bT r) 0/\E 6=.op Z 0 0/\E 9=.op j9 0 0/\E 10=int k/\H' Z=some (⟨262,4,[[int 0,int 0,int 0,int 0]]⟩:Row)/\H' j9=some (mG (xI o r.type (zP o r.type A)))) ?_ fun K hK _ _=>aB (fun hb=>?_) (fun hb=>?_)
     . clear I J X U Y V F ab
       rintro ρ H ⟨X,U,Y,V,F,I,J⟩;simp only[go_sem,F,aT (show k<=4611686018427387904 by omega)];exact⟨⟨k+1,O,X,U,Y,V,rfl,I,by rw[hs];exact J⟩,by simp only[aE];omega⟩
     . simp only[go_sem,V,J]
       refine dM so3 J ⟨by simp,rfl,by simp⟩ ?_;simp only[go_sem];refine hK _ _ ⟨by simp only[go_sem,X],by simp only[go_sem,U],by simp only[go_sem,Y],by simp only[go_sem,V],by simp only[go_sem,F],nR I ad,?_⟩;rw[aA,xI,if_pos (show Hi o r.type=true from hb)];rfl
     . simp only[go_sem]
       refine hK _ _ ⟨by simp only[go_sem,X],by simp only[go_sem,U],by simp only[go_sem,Y],by simp only[go_sem,V],by simp only[go_sem,F],I,?_⟩;rw[xI,if_neg (by rw[show Hi o r.type=false from hb];simp)];exact J
   . simp only[go_sem,V,J]
     refine dM so3 J ⟨by simp,rfl,by simp⟩ ?_;simp only[go_sem];refine hK _ _ ⟨by simp only[go_sem,X],by simp only[go_sem,U],by simp only[go_sem,Y],by simp only[go_sem,V],by simp only[go_sem,F],by simp only[go_sem],nR I ad,?_⟩;rw[aA,zP,if_pos (show G5 o r.type=true from hb)];rfl
   . simp only[go_sem]
     refine hK _ _ ⟨by simp only[go_sem,X],by simp only[go_sem,U],by simp only[go_sem,Y],by simp only[go_sem,V],by simp only[go_sem,F],by simp only[go_sem],I,?_⟩;rw[zP,if_neg (by rw[show G5 o r.type=false from hb];simp)];exact J
 . have aa:=aR hk aa
   subst aa;simp only[go_sem,Y,V,J];refine aH I (by simp[cD]) ?_;simp only[go_sem,Y];rw[Xap (by simp)];exact .refl _
structure InsB(x:Instance):Prop where
 net:NetB x.net
 types:x.types.length<=1048576
 orders:x.orders.length<=1048576
 apart:x.apart.length<=1048576
 before:x.before.length<=1048576
theorem Cf{x:Instance}{l:List Visit}(h:eI x l=0):∀v∈l,0<=v.order/\v.order<(x.orders.length:Int):=by
 intro v F;by_cases E:(l.any fun v=>cC v.order x.orders.length)=true
 . unfold eI at h;rw[if_pos E]at h;cases h
 . have E : cC v.order x.orders.length = false := by
     have:=Xay.1 (Xcp.2 E) v F;simpa using this
   simp only[cC,Xaf,decide_eq_false_iff_not]at E;omega
def sD(x:Instance)(t:VType)(v:Visit):Bool:=match x.orders[v.order.toNat]? with|some o=>qW t.skills o.skills|none=>false
def Kj(x:Instance)(r:Route)(t:VType):Sheet×Score×Int:=
 if(eI x r.visits != 0)=true then(aS,cH,eI x r.visits)
 else if(r.visits.any fun v=> !sD x t v)=true then(aS,cH,18)
 else if(xJ x r != 0)=true then(aS,cH,xJ x r)
 else if((kO x r).2 != 0)=true then(aS,cH,(kO x r).2)
 else((kO x r).1,lG x r (kO x r).1,0)
def oG(x:Instance)(r:Route):Sheet×Score×Int:=
 if cC r.type x.types.length=true then(aS,cH,2)else match x.types[r.type.toNat]? with
 | some t=>Kj x r t
 | none=>(aS,cH,2)
abbrev FK:List AV:=[int 0,int 0,int 0,int 0]
theorem Hu{H:aK}{c:Int}:Conv H (.tup [.agg zeroCells,.agg FK,int c]) (.tup [.agg (bP aS),.agg (cD cH),int c]):=.refl _
theorem M7(x:Instance)(r:Route)(hx:InsB x)(hr:r.visits.length<=1048576):PC prog 251 [.agg (aD x),.agg (bT r)] (.tup [.agg (bP (oG x r).1),.agg (cD (oG x r).2.1),int (oG x r).2.2]):=by
 refine pcd Tryz.func251 ?_;unfold Tryz.f251;simp only[gdS];simp only[go_sem];refine aL fun Z Y=>?_
 have E:=aA bV Z (some (cP zeroCells));generalize aI bV Z _=H0 at E |-;clear Y;simp only[go_sem];refine aL fun j5 Y=>?_
 have J:=aA H0 j5 (some (⟨262,4,[FK]⟩:Row));have I:=aP E Y;have E:=eZ (r':=(⟨262,4,[FK]⟩:Row)) E Y;generalize aI H0 j5 _=H1 at E J |-;clear Y;have U:=Ne.symm I;simp only[go_sem];refine aB (fun h1=>?_) (fun h1=>?_)
 . simp only[go_sem]
   refine aH E (by simp) ?_;simp only[go_sem];refine aH (nR J U) (by simp) ?_;simp only[go_sem,aF _ _ _ _ I];rw[show oG x r=(aS,cH,2)from if_pos h1];exact Hu
 have ah:0<=r.type/\r.type<(x.types.length:Int):=by
   simp only[Xaf,decide_eq_false_iff_not]at h1;omega
 obtain⟨t,ht⟩:=aN (show r.type.toNat<x.types.length by omega);rw[show oG x r=Kj x r t by unfold oG;rw[if_neg (by rw[show cC r.type x.types.length=false from h1];simp),ht]];simp only[go_sem];refine PC.use (KA x r hr hx.apart hx.before) ?_;simp only[go_sem];refine aB (fun h2=>?_) (fun h2=>?_)
 . simp only[go_sem]
   refine aH E (by simp) ?_;simp only[go_sem];refine aH (nR J U) (by simp) ?_;simp only[go_sem,aF _ _ _ _ I];rw[show Kj x r t=(aS,cH,eI x r.visits)from if_pos h2];exact Hu
 have ae:eI x r.visits=0:=by simpa using h2
 have af:=Cf ae;rw[show Kj x r t=_ from if_neg (by rw[h2];simp)];simp only[go_sem];refine⟨fun ρ H=>∃k:Nat,k<=r.visits.length/\ρ 2=.rp (aD x) 0/\ρ 3=.rp (bT r) 0/\ρ 4=.op Z 0 0/\ρ 5=.op j5 0 0/\ρ 8=int k/\H Z=some (cP zeroCells)/\H j5=some (⟨262,4,[FK]⟩:Row)/\∀v∈r.visits.take k,sD x t v=true,
   fun ρ _=>r.visits.length-aV (ρ 8),⟨0,Xab _,rfl,rfl,rfl,rfl,rfl,E,J,by simp⟩,?_⟩
 clear E J;rintro ρ H ⟨k,hk,g2,g3,X,O,g8,E,J,hz⟩;simp only[go_sem,g3,g8];refine aB (fun V=>?_) (fun ab=>?_)
 . have V:=aQ V
   obtain⟨v,hv⟩:=aN V;have b1:=inB V;have hi:=af v (Xac hv);obtain⟨o,ho⟩:=aN (show v.order.toNat<x.orders.length by omega);have es:sD x t v=qW t.skills o.skills:=by unfold sD;rw[ho]
   simp only[go_sem];refine cN (by rfl) (by kernel_rfl) ?_;simp only[go_sem,g2,g3,g8,aC hv,aC ho,aC ht,b1,hi,ah];refine⟨_,(Zb t o.skills).q rfl,?_⟩;simp only[go_sem];refine aB (fun h3=>?_) (fun h3=>?_)
   . simp only[go_sem,X,O]
     refine aH E (by simp) ?_;simp only[go_sem,O];refine aH (nR J U) (by simp) ?_;simp only[go_sem,X,O,aF _ _ _ _ I];rw[if_pos (Xan.2 ⟨v,Xac hv,by rw[es];exact h3⟩)];exact Hu
   . simp only[go_sem,g8,aT (show k<=4611686018427387904 by omega)]
     exact⟨⟨k+1,V,g2,g3,X,O,rfl,E,J,aM (p:=fun v=>sD x t v=true) hv (by rw[es];simpa using h3) hz⟩,by simp only[aE];omega⟩
 have ab:=aR hk ab;subst ab;rw[Xag]at hz;have ag:(r.visits.any fun v=> !sD x t v)=false:=by
   rw[Xay];intro v hv;rw[hz v hv];simp
 rw[if_neg (by rw[ag];simp)];simp only[go_sem,g2,g3];refine PC.use (YD x r hx.orders hr hx.apart hx.before) ?_;simp only[go_sem];refine aB (fun h4=>?_) (fun h4=>?_)
 . simp only[go_sem,X,O]
   refine aH E (by simp) ?_;simp only[go_sem,O];refine aH (nR J U) (by simp) ?_;simp only[go_sem,X,O,aF _ _ _ _ I];rw[if_pos h4];exact Hu
 rw[if_neg (by rw[h4];simp)];simp only[go_sem,g2,g3];refine PC.use (abH x r hx.net hr) ?_;simp only[go_sem];refine aL fun F Y=>?_
 simp only[go_sem];refine aH (aA _ _ _) (by simp[bP]) ?_;have ac:=aP E Y;generalize hG:aI (aI H F _) F _=H2;have aa:H2 F=some (Hy (kO x r).1):=by rw[<-hG,aA];rfl
 have E:H2 Z=some (cP zeroCells):=by rw[<-hG];exact pY E Y
 have J:H2 j5=some (⟨262,4,[FK]⟩:Row):=by rw[<-hG];exact pY J Y
 clear hG Y;simp only[go_sem];refine aB (fun h5=>?_) (fun h5=>?_)
 . simp only[go_sem,X,O]
   refine aH E (by simp) ?_;simp only[go_sem,O];refine aH (nR J U) (by simp) ?_;simp only[go_sem,X,O,aF _ _ _ _ I];rw[if_pos h5];exact Hu
 rw[if_neg (by rw[h5];simp)];simp only[go_sem];refine gB [F] [(0,true),(1,true),(2,true),(3,true),(4,true),(5,false),(6,false),(7,false)] (by simp[aa]) (by kernel_rfl) fun Hp Hr hp hq _ aj=>?_
 have Rp:=(hp F (by simp)).trans aa;have m4:Z∉[F]:=by simpa using ac
 have m5:j5∉[F]:=by simpa using dD J aa rfl
 have S4:=(hq Z m4).trans E;have S5:=(hq j5 m5).trans J;simp only[go_sem,g2,g3,X,O,Rp];refine⟨_,(XS x r (kO x r).1 hr).q rfl,?_⟩;simp only[go_sem,X,O];refine aH S4 (by simp[bP]) ?_;simp only[go_sem,O];refine aH (nR S5 U) (by simp[cD]) ?_;simp only[go_sem];refine iO fun hd Hm ai ad=>?_
 have T4:Hm Z=some (Hy (kO x r).1):=by rw[ad Z m4,aF _ _ _ _ I,aA]
 have T5:Hm j5=some (mG (lG x r (kO x r).1)):=by rw[ad j5 m5,aA]
 simp only[go_sem,X,O,T4,T5];exact .refl _
theorem WH(x:Instance)(r:Route)(J:InsB x)(I:r.visits.length<=1048576):PC prog 197 [.agg (aD x),.agg (bT r)] (int (oG x r).2.2):=by
 refine pcd Tryz.func197 ?_;unfold Tryz.f197;simp only[gdS];simp only[go_sem];refine PC.use (M7 x r J I) ?_;simp only[go_sem];refine aL fun U V=>?_
 simp only[go_sem];refine aL fun O F=>?_
 simp only[go_sem];refine aH (eZ (aA _ _ _) F) (by simp[bP]) ?_;simp only[go_sem];have E:=aP (aA _ _ _) F;refine aH (nR (aA _ _ _) E.symm) (by simp[cD]) ?_;simp only[go_sem];exact .refl _
structure PlanB(p:Plan):Prop where
 routes:p.routes.length<=1048576
 visits:∀r∈p.routes,r.visits.length<=1048576
 unserved:p.unserved.length<=1048576
theorem B7{P:Program}{C:mD}{PC:FuncId->List AV->aK->AV->Prop}{mt:Nat->Bool}{ops:Array Oper}{K:Env->aK->Prop}{m:Nat}{ρ:Env}{H:aK}(J:Env->aK->Prop)(h1:∀ρ H,J ρ H->K ρ H)
 (E:∀K':Env->aK->Prop,(∀ρ H,J ρ H->K' ρ H)->uY P C PC mt ops K' m ρ H):uY P C PC mt ops K m ρ H:=E K h1
theorem pB{α:Type}{p:α->Bool}:∀(l:List α) (n:Int),0<=n->decide (nQ p l n>=0)=l.any p
 | [],n,_=>rfl
 | a::r,n,hn=>by
   have ih:=pB (p:=p) r (n+1) (by omega);rw[Xas]at ih |-;simp only[decide_eq_true_eq]at ih |-;rw[List.any_cons,Xbq,<-ih];by_cases h:p a=true
   . rw[show nQ p (a::r) n=n from if_pos h];exact⟨fun _=>.inl h,fun _=>hn⟩
   . rw[show nQ p (a::r) n=nQ p r (n+1)from if_neg h];exact⟨fun x=>.inr x,fun x=>x.resolve_left h⟩
theorem Lz(l:List Int):(hU l).length=1:=(rfl)
theorem Xr(l:List Int):(hU l).getD 0 .any=.sl (l.map bW):=(rfl)
attribute [go_sem] Lz Xr
theorem CE{g:Nat}{cap:List AV}{p:Visit->Bool}(l:List (Visit))(hl:l.length<=1048576)(X:aG prog g=true)(hg:∀v∈l,PC prog g (.agg (aJ v)::cap) (boo (p v))):
   PC prog 345 [.sl (l.map aJ),.fn g cap] (int (nQ p l 0)):=by
 refine pcd Tryz.func345 ?_;unfold Tryz.f345;simp only[gdS];simp only[go_sem];refine⟨fun ρ _=>∃k:Nat,k<=l.length/\ρ 0=.sl (l.map aJ)/\ρ 1=.fn g cap/\ρ 7=int l.length/\ρ 8=int k/\∀u∈l.take k,p u=false,fun ρ _=>l.length-aV (ρ 8),⟨0,Xab _,rfl,rfl,rfl,rfl,by simp⟩,?_⟩;rintro ρ H ⟨k,Z,h0,h1,U,I,J⟩;simp only[go_sem,h0,h1,U,I];refine aB (fun E=>?_) (fun F=>?_)
 . have E:=aQ E
   obtain⟨u,O⟩:=aN E;have Y:=inB E;simp only[go_sem,h0,h1,U,I,aC O,Y,X];refine PC.use (hg u (Xac O)) ?_;simp only[go_sem,h0,h1,U,I];refine aB (fun V=>?_) (fun V=>?_)
   . simp only[go_sem,I]
     exact bJ (by rw[kW J O V];omega)
   . simp only[go_sem,h0,h1,U,I,aT (show k<=4611686018427387904 by omega)]
     exact⟨⟨k+1,E,rfl,aM (p:=fun u=>p u=false) O V J⟩,by simp only[aE];omega⟩
 . have F:=aR Z F
   subst F;rw[Xag]at J;simp only[go_sem];exact bJ (by rw[jP J])
theorem rS{g:Nat}{cap:List AV}{p:Visit->Bool}(l:List (Visit))(F:l.length<=1048576)(E:aG prog g=true)(I:∀v∈l,PC prog g (.agg (aJ v)::cap) (boo (p v))):
   PC prog 306 [.sl (l.map aJ),.fn g cap] (boo (l.any p)):=by
 refine pcd Tryz.func306 ?_;unfold Tryz.f306;simp only[gdS];simp only[go_sem];refine PC.use (CE l F E I) ?_;simp only[go_sem];exact bR (pB l 0 (Xbi _))
theorem K7{g:Nat}{cap:List AV}{p:List Int->Bool}(l:List (List Int))(hl:l.length<=1048576)(X:aG prog g=true)(hg:∀v∈l,PC prog g (.sl (v.map bW)::cap) (boo (p v))):
   PC prog 354 [.sl (l.map hU),.fn g cap] (int (nQ p l 0)):=by
 refine pcd Tryz.func354 ?_;unfold Tryz.f354;simp only[gdS];simp only[go_sem];refine⟨fun ρ _=>∃k:Nat,k<=l.length/\ρ 0=.sl (l.map hU)/\ρ 1=.fn g cap/\ρ 7=int l.length/\ρ 8=int k/\∀u∈l.take k,p u=false,fun ρ _=>l.length-aV (ρ 8),⟨0,Xab _,rfl,rfl,rfl,rfl,by simp⟩,?_⟩;rintro ρ H ⟨k,Z,h0,h1,U,I,J⟩;simp only[go_sem,h0,h1,U,I];refine aB (fun E=>?_) (fun F=>?_)
 . have E:=aQ E
   obtain⟨u,O⟩:=aN E;have Y:=inB E;simp only[go_sem,h0,h1,U,I,aC O,Y,X];refine PC.use (hg u (Xac O)) ?_;simp only[go_sem,h0,h1,U,I];refine aB (fun V=>?_) (fun V=>?_)
   . simp only[go_sem,I]
     exact bJ (by rw[kW J O V];omega)
   . simp only[go_sem,h0,h1,U,I,aT (show k<=4611686018427387904 by omega)]
     exact⟨⟨k+1,E,rfl,aM (p:=fun u=>p u=false) O V J⟩,by simp only[aE];omega⟩
 . have F:=aR Z F
   subst F;rw[Xag]at J;simp only[go_sem];exact bJ (by rw[jP J])
theorem Fk{g:Nat}{cap:List AV}{p:List Int->Bool}(l:List (List Int))(F:l.length<=1048576)(E:aG prog g=true)(I:∀v∈l,PC prog g (.sl (v.map bW)::cap) (boo (p v))):
   PC prog 315 [.sl (l.map hU),.fn g cap] (boo (l.any p)):=by
 refine pcd Tryz.func315 ?_;unfold Tryz.f315;simp only[gdS];simp only[go_sem];refine PC.use (K7 l F E I) ?_;simp only[go_sem];exact bR (pB l 0 (Xbi _))
theorem VB(l:List Visit)(v:Visit)(hl:l.length<=1048576):PC prog 325 [.sl (l.map aJ),.agg (aJ v)] (int (bD l v)):=by
 refine pcd Tryz.func325 ?_;unfold Tryz.f325;simp only[gdS];simp only[go_sem];refine⟨fun ρ _=>∃k:Nat,k<=l.length/\ρ 0=.sl (l.map aJ)/\ρ 3=.rp (aJ v) 0/\ρ 7=int l.length/\ρ 8=int k/\∀u∈l.take k,mV v u=false,fun ρ _=>l.length-aV (ρ 8),⟨0,Xab _,rfl,rfl,rfl,rfl,by simp⟩,?_⟩;rintro ρ H ⟨k,hk,h0,U,V,J,O⟩;simp only[go_sem,h0,U,V,J];refine aB (fun E=>?_) (fun I=>?_)
 . have E:=aQ E
   obtain⟨u,X⟩:=aN E;have Z:=inB E;have Y:(v.order == u.order&&(v.drop == u.drop&&true))=mV v u:=by
     unfold mV;rw[show(v.order == u.order)=(u.order == v.order)from Xas.2 (by simp only[Xba];exact eq_comm),show(v.drop == u.drop)=(u.drop == v.drop)from by cases v.drop <;> cases u.drop <;> rfl]
   simp only[go_sem,h0,U,V,J];refine cN (by rfl) (by kernel_rfl) ?_;simp only[go_sem,h0,U,V,J,aC X,Z];refine aB (fun F=>?_) (fun F=>?_)
   . have F:mV v u=true:=by rw[<-Y];exact F
     simp only[go_sem,J];exact bJ (by rw[bD,kW O X F];omega)
   . have F:mV v u=false:=by rw[<-Y];exact F
     simp only[go_sem,h0,U,V,J,aT (show k<=4611686018427387904 by omega)];exact⟨⟨k+1,E,rfl,aM (p:=fun u=>mV v u=false) X F O⟩,by simp only[aE];omega⟩
 . have I:=aR hk I
   subst I;rw[Xag]at O;simp only[go_sem];exact bJ (by rw[bD,jP O])
def inV(l:List Visit)(v:Visit):Bool:=decide (bD l v>=0)
theorem S1(l:List Visit)(v:Visit)(E:l.length<=1048576):PC prog 346 [.sl (l.map aJ),.agg (aJ v)] (boo (inV l v)):=by
 refine pcd Tryz.func346 ?_;unfold Tryz.f346;simp only[gdS];simp only[go_sem];refine PC.use (VB l v E) ?_;simp only[go_sem];exact .refl _
theorem De(l:List Visit)(v:Visit)(E:l.length<=1048576):PC prog 280 [.sl (l.map aJ),.agg (aJ v)] (int (bD l v)):=by
 refine pcd Tryz.func280 ?_;unfold Tryz.f280;simp only[gdS];simp only[go_sem];refine PC.use (VB l v E) ?_;simp only[go_sem];exact .refl _
def iF(l:List Visit)(o:Int):Bool:=l.any fun v=>v.order == o
theorem apQ(o:Int)(v:Visit):PC prog 347 [.agg (aJ v),.rp [int o] 0] (boo (v.order == o)):=by
 refine pcd Tryz.func347 ?_;unfold Tryz.f347;simp only[gdS];simp only[go_sem];exact .refl _
theorem VO(o:Int)(v:Visit):PC prog 348 [.agg (aJ v),.rp [int o] 0] (boo (v.order == o)):=by
 refine pcd Tryz.func348 ?_;unfold Tryz.f348;simp only[gdS];simp only[go_sem];exact .refl _
theorem EC(l:List Visit)(o:Int)(E:l.length<=1048576):PC prog 311 [.sl (l.map aJ),int o] (boo (iF l o)):=by
 refine pcd Tryz.func311 ?_;unfold Tryz.f311;simp only[gdS];simp only[go_sem];refine PC.use (rS (p:=fun v=>v.order == o) l E (by kernel_rfl) (fun v _=>apQ o v)) ?_;simp only[go_sem];exact .refl _
theorem US(l:List Order)(k:Int):PC prog 186 [.sl (l.map bI),int k] (boo (!cC k l.length)):=by
 refine pcd Tryz.func186 ?_;unfold Tryz.f186;simp only[gdS];simp only[go_sem];refine bR ?_;unfold cC;rw[Xas];simp
theorem uQ{α:Type}{p:α->Bool}{l:List α}{k:Nat}{x:α}(F:l[k]?=some x)(E:p x=false):l.all p=false:=by
 rw[List.all_eq_false];exact⟨x,Xac F,by simp[E]⟩
theorem AE{α:Type}{p:α->Bool}{l:List α}(h:∀x∈l.take l.length,p x=true):l.all p=true:=by
 rw[Xag]at h;rw[Xaj];exact h
theorem TC(x:Int):vU .and .i64 x 1=x%2:=by
 have h:((BitVec.ofInt 64 x &&& BitVec.ofInt 64 1).toNat:Int)=x%2:=by
   rw[BitVec.toNat_and,BitVec.toNat_ofInt,BitVec.toNat_ofInt];have:((1:Int)%((2^64:Nat):Int)).toNat=1:=by decide
   rw[this,Nat.and_one_is_mod];omega
 refine Eq.trans (congrArg IntKind.i64.wrap h) ?_;exact bH (by omega)
theorem HT{a b:Nat}(E:a<2^63)(F:b<2^63):vU .or .i64 (a:Int) (b:Int)=((a ||| b:Nat):Int):=by
 have h:((BitVec.ofInt 64 (a:Int) ||| BitVec.ofInt 64 (b:Int)).toNat:Int)=((a ||| b:Nat):Int):=by
   rw[BitVec.toNat_or,BitVec.toNat_ofInt,BitVec.toNat_ofInt];have h1:((a:Int)%((2^64:Nat):Int)).toNat=a:=by omega
   have I:((b:Int)%((2^64:Nat):Int)).toNat=b:=by omega
   rw[h1,I]
 refine Eq.trans (congrArg IntKind.i64.wrap h) ?_;have:=Nat.or_lt_two_pow E F;exact bH (by omega)
theorem tT{x:Int}{i:Nat}(h:i<=62):shV .shr .i64 x (i:Int)=x/2^i:=by
 show x.fdiv (2^min ((i:Int)).toNat 64)=_;have:min ((i:Int)).toNat 64=i:=by omega
 rw[this,Int.fdiv_eq_ediv_of_nonneg _ (by exact Int.le_of_lt (Int.pow_pos (by decide)))]
theorem Ig{i:Nat}(h:i<=62):shV .shl .i64 1 (i:Int)=((2^i:Nat):Int):=by
 show IntKind.i64.wrap (1*2^min ((i:Int)).toNat 64)=_;have:min ((i:Int)).toNat 64=i:=by omega
 rw[this,Int.one_mul];have F:(2:Nat)^i<=2^62:=Xav (by decide) h;have E:((2:Int)^i)=((2^i:Nat):Int):=by norm_cast
 rw[E];generalize 2^i=m at F;exact bH (by omega)
def dE(set i:Int):Bool:=decide (i>=0)&&decide (i<=62)&&((set/2^i.toNat)%2 == 1)
theorem xO(set i:Int):PC prog 121 [int set,int i] (boo (dE set i)):=by
 refine pcd Tryz.func121 ?_;unfold Tryz.f121;simp only[gdS];simp only[go_sem];refine⟨fun h=>?_,?_⟩
 . simp at h;omega
 . refine bR ?_
   unfold dE;rw[TC];by_cases h:0<=i/\i<=62
   . obtain⟨h0,h1⟩:=h
     have e:=tT (x:=set) (i:=i.toNat) (by omega);rw[Int.toNat_of_nonneg h0]at e;rw[e]
   . have:(decide (i>=0)&&decide (i<=62))=false:=by simp;omega
     rw[this];rfl
def uJ(l:List Visit):Nat:=l.foldl (fun s v=>s ||| 2^v.order.toNat) 0
theorem acO(l:List Visit)(v:Visit):uJ (l++[v])=uJ l ||| 2^v.order.toNat:=by simp[uJ]
theorem agJ{m:Nat}(l:List Visit)(h:∀v∈l,v.order.toNat<m):uJ l<2^m:=by
 suffices ∀(l:List Visit) (s:Nat),s<2^m->(∀v∈l,v.order.toNat<m)->l.foldl (fun s v=>s ||| 2^v.order.toNat) s<2^m from this l 0 (Nat.two_pow_pos m) h
 intro l;induction l with
 | nil=>intro s E _;exact E
 | cons v r ih=>
   intro s E h;rw[List.foldl_cons];exact ih _ (Nat.or_lt_two_pow E (Xcq (by decide) (h v (by simp)))) fun v F=>h v (by simp[F])
theorem FU(l:List Visit)(i:Nat):(uJ l).testBit i=l.any fun v=>v.order.toNat == i:=by
 suffices ∀(l:List Visit) (s:Nat),(l.foldl (fun s v=>s ||| 2^v.order.toNat) s).testBit i=(s.testBit i||l.any fun v=>v.order.toNat == i)from by
   have:=this l 0;simpa[uJ]using this
 intro l;induction l with
 | nil=>intro s;simp
 | cons v r ih=>
   intro s;rw[List.foldl_cons,ih,Nat.testBit_or,Nat.testBit_two_pow,List.any_cons,Bool.or_assoc];rfl
theorem Oj{s i:Nat}(h:s.testBit i=true):s ||| 2^i=s:=by
 apply Nat.eq_of_testBit_eq;intro j;rw[Nat.testBit_or,Nat.testBit_two_pow];by_cases e:i=j
 . subst e;simp[h]
 . simp[e]
def okV(v:Visit):Bool:= !(decide (v.order<0)||decide (v.order>62))
def sB(l:List Visit):Int×Int:=if l.all okV then(((uJ l:Nat):Int),0)else(0,2)
theorem Xm(r:Route)(hr:r.visits.length<=1048576):PC prog 349 [.agg (bT r)] (.tup [int (sB r.visits).1,int (sB r.visits).2]):=by
 refine pcd Tryz.func349 ?_;unfold Tryz.f349;simp only[gdS];simp only[go_sem];refine⟨fun ρ _=>∃k:Nat,k<=r.visits.length/\ρ 8=.sl (r.visits.map aJ)/\ρ 9=int r.visits.length/\ρ 10=int k/\ρ 4=int (uJ (r.visits.take k):Nat)/\∀v∈r.visits.take k,okV v=true,fun ρ _=>r.visits.length-aV (ρ 10),⟨0,Xab _,rfl,rfl,rfl,rfl,by simp⟩,?_⟩;rintro ρ H ⟨k,hk,Z,Y,E,U,hz⟩;simp only[go_sem,Z,Y,E,U];refine aB (fun F=>?_) (fun J=>?_)
 . have F:=aQ F
   obtain⟨v,I⟩:=aN F;have b1:=inB F;simp only[go_sem,Z,Y,E,U,aC I,b1];refine aL fun j hj=>?_
   simp only[go_sem,Z,Y,E,U,aC I,b1];refine aH (aA _ _ _) (by simp[cX]) ?_;simp only[go_sem,Z,Y,E,U,aC I,b1];refine aB (fun hb=>?_) (fun hb=>?_)
   . simp only[go_sem]
     have:sB r.visits=(0,2):=by unfold sB;rw[uQ I (by unfold okV;rw[hb];rfl)];rfl
     rw[this];exact .refl _
   . have V:okV v=true:=by unfold okV;rw[hb];rfl
     have X:0<=v.order/\v.order<=62:=by simp[okV]at V;omega
     have O:uJ (r.visits.take k)<2^63:=agJ _ fun v I=>by have:=hz v I;simp[okV]at this;omega
     have e1:=Ig (i:=v.order.toNat) (by omega);rw[Int.toNat_of_nonneg X.1]at e1;have e2:=HT (a:=uJ (r.visits.take k)) (b:=2^v.order.toNat) O (Xcq (by decide) (by omega));simp only[go_sem,Z,Y,E,U,aC I,b1,e1,e2,aT (show k<=4611686018427387904 by omega)];refine⟨X.1,⟨k+1,F,rfl,?_,aM (p:=fun v=>okV v=true) I V hz⟩,by simp only[aE];omega⟩;rw[bQ I,acO]
 . have J:=aR hk J
   subst J;simp only[go_sem,U];have:sB r.visits=(((uJ r.visits:Nat):Int),0):=by unfold sB;rw[AE hz];rfl
   rw[this,Xag];exact .refl _
theorem ZP{s i:Nat}(E:s<2^63)(hi:i<63)(h:s.testBit i=false):s ||| 2^i=s+2^i:=by
 have F:2^i<2^63:=Xcq (by decide) hi;have h0:BitVec.ofNat 64 s &&& BitVec.ofNat 64 (2^i)=0#64:=by
   apply BitVec.eq_of_toNat_eq;rw[BitVec.toNat_and,BitVec.toNat_ofNat,BitVec.toNat_ofNat,Xci (by omega),Xci (by omega)];apply Nat.eq_of_testBit_eq;intro j;rw[Nat.testBit_and,Nat.testBit_two_pow];by_cases e:i=j
   . subst e;simp[h]
   . simp[e]
 have h1:=congrArg BitVec.toNat (BitVec.add_eq_or_of_and_eq_zero (BitVec.ofNat 64 s) (BitVec.ofNat 64 (2^i)) h0);rw[BitVec.toNat_add,BitVec.toNat_or,BitVec.toNat_ofNat,BitVec.toNat_ofNat,Xci (by omega:s<2^64),Xci (by omega:2^i<2^64),Xci (by omega)]at h1;exact h1.symm
theorem DJ{n:Int}(h:0<=n/\n<18446744073709551616):IntKind.u64.wrap n=n:=Mv.acR h
theorem kS{s:Nat}{i:Int}(h0:0<=i)(h1:i<=62):dE (s:Int) i=s.testBit i.toNat:=by
 rw[Xcs];unfold dE;have E:((2:Int)^i.toNat)=((2^i.toNat:Nat):Int):=by norm_cast
 have:((s:Int)/2^i.toNat)=((s/2^i.toNat:Nat):Int):=by rw[E];rfl
 rw[this];generalize s/2^i.toNat=m;rw[Xas];simp only[Xba,decide_eq_true_eq,Xak];omega
theorem Do{s:Nat}{i:Int}(h0:0<=i)(h1:i<=62):pP (s:Int) i=s.testBit i.toNat:=by
 rw[<-kS h0 h1];unfold pP dE;rw[DJ (by omega)];obtain⟨n,rfl⟩:=Int.eq_ofNat_of_zero_le h0;rw[tT (by omega)];have E:((2:Int)^n)=((2^n:Nat):Int):=by norm_cast
 have e:((n:Int)).toNat=n:=Xaq n;rw[e];have:((s:Int)/2^n)=((s/2^n:Nat):Int):=by rw[E];rfl
 rw[this];generalize s/2^n=m;rw[Xch (by omega)];rw[Xas];simp only[Xba,decide_eq_true_eq,Xak];omega
theorem abT{s:Nat}{n:Int}(J:s<2^63)(h0:0<=n)(h1:n<=62):TF (s:Int) n=((s ||| 2^n.toNat:Nat):Int):=by
 unfold TF;rw[Do h0 h1];cases F:s.testBit n.toNat with
 | true=>rw[if_pos rfl,Oj F]
 | false=>
   rw[if_neg (by simp),DJ (by omega)];obtain⟨k,rfl⟩:=Int.eq_ofNat_of_zero_le h0;have e:((k:Int)).toNat=k:=Xaq k;rw[e]at F |-;have O:2^k<2^63:=Xcq (by decide) (by omega);have E:=ZP J (by omega) F;have I:=Nat.or_lt_two_pow J O;rw[E]at I |-;rw[Ig (by omega),bH (by omega)];omega
theorem Bj{l:List Visit}(h:∀v∈l,xW v=false):EQ l=(uJ l:Nat):=by
 suffices ∀(l:List Visit) (s:Nat),s<2^63->(∀v∈l,xW v=false)->l.foldl (fun s v=>TF s v.order) (s:Int)=((l.foldl (fun s v=>s ||| 2^v.order.toNat) s:Nat):Int)from this l 0 (by decide) h
 intro l;induction l with
 | nil=>intro s _ _;rfl
 | cons v r ih=>
   intro s E h;have F:=h v (by simp);unfold xW at F;simp only[Xaf,decide_eq_false_iff_not]at F;rw[List.foldl_cons,List.foldl_cons,abT E (by omega) (by omega)];exact ih _ (Nat.or_lt_two_pow E (Xcq (by decide) (by omega))) fun u I=>h u (by simp[I])
theorem UD(v:Visit):okV v= !xW v:=rfl
theorem FW(l:List Visit):sB l=cK l:=by
 unfold sB cK;by_cases h:l.any xW=true
 . rw[if_pos h,if_neg]
   rw[Xaj];intro J;obtain⟨v,E,F⟩:=Xan.1 h;have:=J v E;rw[UD,F]at this;cases this
 . have I : ∀ v ∈ l, xW v = false := fun v E => by
     cases F:xW v with
     | false=>rfl
     | true=>exact absurd (Xan.2 ⟨v,E,F⟩) h
   rw[if_neg h,if_pos (Xaj.2 fun v E=>by rw[UD,I v E];rfl),Bj I]
theorem GL(r:Route)(E:r.visits.length<=1048576):PC prog 349 [.agg (bT r)] (.tup [int (cK r.visits).1,int (cK r.visits).2]):=FW r.visits▸Xm r E
theorem HL{l:List Visit}(h:∀v∈l,xW v=false){i:Int}(h0:0<=i)(h1:i<=62):dE (cK l).1 i=iF l i:=by
 have e:(cK l).1=(uJ l:Nat):=by
   unfold cK;rw[if_neg (by rw[pF h];simp)];exact Bj h
 rw[e,kS h0 h1,FU];unfold iF;refine Mv.qT fun v F=>?_
 have E:=h v F;unfold xW at E;simp only[Xaf,decide_eq_false_iff_not]at E;rw[Xas];simp only[Xba];omega
theorem sE{l:List Visit}(h:∀v∈l,xW v=false){i:Int}(h0:0<=i)(h1:i<=62):pP (cK l).1 i=iF l i:=by
 rw[<-HL h h0 h1];have e:(cK l).1=(uJ l:Nat):=by
   unfold cK;rw[if_neg (by rw[pF h];simp)];exact Bj h
 rw[e,Do h0 h1,kS h0 h1]
def gC(o:Order)(i:Int):List Visit:=(if decide (o.pick.place>=0)=true then[⟨i,false⟩]else[])++(if decide (o.drop.place>=0)=true then[⟨i,true⟩]else[])
def fC(os:List Order)(i:Int):List Visit:=if cC i os.length=true then[]else match os[i.toNat]? with|some o=>gC o i|none=>[]
theorem PS(o:Order)(i:Int):(gC o i).length<=2:=by unfold gC;split <;> split <;> simp
theorem tX(os:List Order)(i:Int):(fC os i).length<=2:=by
 unfold fC;split
 . simp
 . split
   . exact PS _ _
   . simp
theorem sT(os:List Order)(i:Int):PC prog 118 [.sl (os.map bI),int i] (.sl ((fC os i).map aJ)):=by
 refine pcb (fun t=>t == 5) Tryz.func118 ?_;unfold Tryz.f118;simp only[gdS];simp only[go_sem];refine aL fun j Y=>?_
 simp only[go_sem];refine PC.use (US os i) ?_;simp only[go_sem];refine aB (fun h0=>?_) (fun h0=>?_)
 . have J:cC i os.length=true:=by simpa using h0
   simp only[go_sem];rw[fC,if_pos J];exact .refl _
 have J:cC i os.length=false:=by simpa using h0
 have I:0<=i/\i<(os.length:Int):=by simp only[cC,Xaf,decide_eq_false_iff_not]at J;omega
 obtain⟨o,F⟩:=aN (show i.toNat<os.length by omega);rw[fC,if_neg (by rw[J];simp),F];simp only[go_sem,aC F,I];refine aB (fun h1=>?_) (fun h1=>?_)
 . simp only[go_sem,aC F,I]
   refine aZ (aA _ _ _) ⟨rfl,rfl⟩ ⟨rfl,trivial⟩ (by simp) (fun X V=>?_);simp only[go_sem,aC F,I];refine aB (fun E=>?_) (fun E=>?_)
   . simp only[go_sem,aC F,I]
     refine aZ (aA _ _ _) ⟨rfl,rfl⟩ ⟨rfl,trivial⟩ (by simp) (fun U O=>?_);simp only[go_sem];have e:gC o i=[⟨i,false⟩,⟨i,true⟩]:=by unfold gC;rw[if_pos h1,if_pos E];rfl
     rw[e];exact .row _ _ _ (aA _ _ _) (ConvE.refl _)
   . simp only[go_sem]
     have e:gC o i=[⟨i,false⟩]:=by unfold gC;rw[if_pos h1,if_neg (by rw[E];simp)];rfl
     rw[e];exact .row _ _ _ (aA _ _ _) (ConvE.refl _)
 . simp only[go_sem,aC F,I]
   refine aB (fun E=>?_) (fun E=>?_)
   . simp only[go_sem,aC F,I]
     refine aZ (aA _ _ _) ⟨rfl,rfl⟩ ⟨rfl,trivial⟩ (by simp) (fun U O=>?_);simp only[go_sem];have e:gC o i=[⟨i,true⟩]:=by unfold gC;rw[if_neg (by rw[h1];simp),if_pos E];rfl
     rw[e];exact .row _ _ _ (aA _ _ _) (ConvE.refl _)
   . simp only[go_sem]
     have e:gC o i=[]:=by unfold gC;rw[if_neg (by rw[h1];simp),if_neg (by rw[E];simp)];rfl
     rw[e];exact .row _ _ _ (aA _ _ _) (ConvE.refl _)
def pO(l:List Visit)(i:Nat):Bool:=decide (bD (l.take i) (l.getD i ⟨0,false⟩)>=0)
theorem Gy:∀l:List Visit,cZ 2 (l.map aJ)
 | []=>trivial
 | _::r=>⟨rfl,Gy r⟩
theorem aeN(l:List Visit)(hl:l.length<=1048576):PC prog 309 [.sl (l.map aJ)] (boo ((List.range l.length).any (pO l))):=by
 refine pcd Tryz.func309 ?_;unfold Tryz.f309;simp only[gdS];simp only[go_sem];refine⟨fun ρ _=>∃k:Nat,k<=l.length/\ρ 0=.sl (l.map aJ)/\ρ 5=.sl (l.map aJ)/\ρ 6=int l.length/\ρ 7=int k/\∀c∈(List.range l.length).take k,pO l c=false,fun ρ _=>l.length-aV (ρ 7),⟨0,Xab _,rfl,rfl,rfl,rfl,by simp⟩,?_⟩;rintro ρ H ⟨k,hk,h0,F,J,O,hz⟩;simp only[go_sem,h0,F,J,O];refine aB (fun E=>?_) (fun U=>?_)
 . have E:=aQ E
   obtain⟨v,hv⟩:=aN E;have b1:=inB E;simp only[go_sem,h0,F,J,O,aC hv,b1];refine aL fun V X=>?_
   simp only[go_sem,h0,F,J,O];refine aH (aA _ _ _) (by simp[cX]) ?_;generalize I:aI (aI _ V _) V _=HGi4;have Z:HGi4 V=some (⟨119,2,[aJ v]⟩):=by rw[<-I,aA];try rfl
   clear I X;simp only[go_sem,h0,F,J,O,Z];refine gB [V] [(0,true),(1,true),(2,true),(3,true),(4,true),(5,true)] (by simp[Z]) (by kernel_rfl) fun Hp Hr hp hr _ aa=>?_
   have P4:=(hp V (by simp)).trans Z;simp only[go_sem,h0,F,J,O,P4,<-List.map_take];refine⟨by omega,_,(De (l.take k) v (by simp;omega)).q rfl,?_⟩;simp only[go_sem,h0,F,J,O,P4];refine iO fun _ Hm _ _=>?_
   simp only[go_sem,h0,F,J,O];have ed:pO l k=decide (bD (l.take k) v>=0):=by simp[pO,List.getD,hv]
   refine aB (fun Y=>?_) (fun Y=>?_)
   . simp only[go_sem]
     exact bR (Xan.2 ⟨k,Xam.2 E,ed.trans Y⟩).symm
   . simp only[go_sem,h0,F,J,O,aT (show k<=4611686018427387904 by omega)]
     exact⟨⟨k+1,E,rfl,aM (p:=fun c=>pO l c=false) (gL E) (ed.trans Y) hz⟩,by simp only[aE];omega⟩
 . have U:=aR hk U
   subst U;simp only[go_sem];refine bR ?_
   symm
   rw[Xay];intro c hc;rw[hz c (by rw[Xap (by simp)];exact hc)];simp
def pC(l:List Visit):List Visit->Int->Bool
 | [],_=>true
 | w::r,last=>decide (bD l w>last)&&pC l r (bD l w)
def uU(os:List Order)(l:List Visit)(v:Visit):Bool:=inV (fC os v.order) v&&pC l (fC os v.order) (-1)
theorem OA{α:Type}{l:List α}{k:Nat}{x:α}(h:l[k]?=some x):l.drop k=x::l.drop (k+1):=by
 obtain⟨E,rfl⟩:=List.getElem?_eq_some_iff.1 h;exact List.drop_eq_getElem_cons E
theorem Ym(x:Instance)(l:List Visit)(hl:l.length<=1048576):PC prog 310 [.agg (aD x),.sl (l.map aJ)] (boo (l.all (uU x.orders l))):=by
 refine pcd Tryz.func310 ?_;unfold Tryz.f310;simp only[gdS];simp only[go_sem];refine⟨fun ρ _=>∃k:Nat,k<=l.length/\ρ 1=.sl (l.map aJ)/\ρ 2=.rp (aD x) 0/\ρ 12=.sl (l.map aJ)/\ρ 13=int l.length/\ρ 14=int k/\∀v∈l.take k,uU x.orders l v=true,fun ρ _=>l.length-aV (ρ 14),⟨0,Xab _,rfl,rfl,rfl,rfl,rfl,by simp⟩,?_⟩;rintro ρ H ⟨k,hk,h1,O,F,E,I,hz⟩;simp only[go_sem,h1,O,F,E,I];refine aB (fun Z=>?_) (fun ae=>?_)
 . have Z:=aQ Z
   obtain⟨v,hv⟩:=aN Z;have b1:=inB Z;simp only[go_sem,h1,O,F,E,I,aC hv,b1];refine aL fun i6 af=>?_
   simp only[go_sem,h1,O,F,E,I];refine aH (aA _ _ _) (by simp[cX]) ?_;generalize ab:aI (aI _ i6 _) i6 _=HGi6;have R6:HGi6 i6=some (⟨119,2,[aJ v]⟩):=by rw[<-ab,aA];try rfl
   clear ab af;simp only[go_sem,h1,O,F,E,I,R6];refine PC.use (sT x.orders v.order) ?_;have ai:=tX x.orders v.order;simp only[go_sem,h1,O,F,E,I,R6];refine PC.use (S1 (fC x.orders v.order) v (by omega)) ?_;simp only[go_sem,h1,O,F,E,I,R6];refine aB (fun hb=>?_) (fun hb=>?_)
   . simp only[go_sem]
     refine bR ?_
     symm
     exact uQ hv (by unfold uU;rw[show inV (fC x.orders v.order) v=false by simpa using hb];rfl)
   have ah:inV (fC x.orders v.order) v=true:=by simpa using hb
   simp only[go_sem,h1,O,F,E,I,R6];refine⟨fun ρ _=>∃(m:Nat) (last:Int),m<=(fC x.orders v.order).length/\ρ 1=.sl (l.map aJ)/\ρ 2=.rp (aD x) 0/\ρ 12=.sl (l.map aJ)/\ρ 13=int l.length/\ρ 14=int k/\ρ 27=.sl ((fC x.orders v.order).map aJ)/\ρ 28=int (fC x.orders v.order).length/\ρ 29=int m/\ρ 8=int last/\pC l (fC x.orders v.order) (-1)=pC l ((fC x.orders v.order).drop m) last,fun ρ _=>(fC x.orders v.order).length-aV (ρ 29),
     ⟨0,-1,Xab _,by simp only[go_sem,h1],by simp only[go_sem,O],by simp only[go_sem,F],by simp only[go_sem,E],by simp only[go_sem,I],by simp only[go_sem],by simp only[go_sem,Xaa],by simp only[go_sem];rfl,by simp only[go_sem],rfl⟩,?_⟩
   clear h1 O F E I R6;rintro ρ H ⟨m,last,hm,h1,O,F,E,I,U,X,V,h8,he⟩;simp only[go_sem,h1,O,F,E,I,U,X,V,h8];refine aB (fun J=>?_) (fun aa=>?_)
   . have J:=aQ J
     obtain⟨w,hw⟩:=aN J;have b2:=inB J;simp only[go_sem,h1,O,F,E,I,U,X,V,h8,aC hw,b2];refine aL fun ac ad=>?_
     simp only[go_sem,h1,O,F,E,I,U,X,V,h8];refine aH (aA _ _ _) (by simp[cX]) ?_;generalize Y:aI (aI _ ac _) ac _=HGi10;have ag:HGi10 ac=some (⟨119,2,[aJ w]⟩):=by rw[<-Y,aA];try rfl
     clear Y ad;simp only[go_sem,h1,O,F,E,I,U,X,V,h8,ag];refine PC.use (De l w hl) ?_;simp only[go_sem,h1,O,F,E,I,U,X,V,h8,ag];rw[OA hw]at he;refine aB (fun hb=>?_) (fun hb=>?_)
     . simp only[go_sem]
       refine bR ?_
       symm
       refine uQ hv ?_;unfold uU;rw[ah,he,pC];have:decide (bD l w>last)=false:=by simp at hb |-;exact hb
       rw[this];rfl
     . simp only[go_sem,h1,O,F,E,I,U,X,V,h8,aT (show m<=4611686018427387904 by omega)]
       refine⟨⟨m+1,_,J,rfl,rfl,?_⟩,by simp only[aE];omega⟩;rw[he,pC];have:decide (bD l w>last)=true:=by simp at hb |-;exact hb
       rw[this];rfl
   . have aa:=aR hm aa
     subst aa;rw[List.drop_length,pC]at he;simp only[go_sem,h1,O,F,E,I,aT (show k<=4611686018427387904 by omega)];exact⟨⟨k+1,Z,rfl,aM (p:=fun v=>uU x.orders l v=true) hv (by unfold uU;rw[ah,he];rfl) hz⟩,by simp only[aE];omega⟩
 . have ae:=aR hk ae
   subst ae;simp only[go_sem];exact bR (AE hz).symm
def E7(l:List Visit)(a b:Int):Bool:=decide (nQ (fun v:Visit=>v.order == b) l 0<0)||(iF l a&& !iF (l.drop (nQ (fun v:Visit=>v.order == b) l 0).toNat) a)
theorem Uk{α:Type}{p:α->Bool}:∀(l:List α) (n:Int),nQ p l n<n+l.length\/nQ p l n= -1
 | [],n=>.inr rfl
 | a::r,n=>by
   unfold nQ;split
   . left;simp;omega
   . rcases Uk (p:=p) r (n+1)with h|h
     . left;simp;omega
     . right;exact h
theorem X1(l:List Visit)(a b:Int)(F:l.length<=1048576):PC prog 312 [.sl (l.map aJ),int a,int b] (boo (E7 l a b)):=by
 refine pcd Tryz.func312 ?_;unfold Tryz.f312;simp only[gdS];simp only[go_sem];refine PC.use (CE (p:=fun v=>v.order == b) l F (by simp only[go_sem]) fun v _=>VO b v) ?_;simp only[go_sem];have hi:=Uk (p:=fun v:Visit=>v.order == b) l 0;generalize J:nQ (fun v:Visit=>v.order == b) l 0=I at hi;refine aB (fun h0=>?_) (fun h0=>?_)
 . simp only[go_sem]
   refine bR ?_;unfold E7;rw[J,h0];rfl
 . have E:0<=I:=by simp at h0;exact h0
   simp only[go_sem];refine PC.use (EC l a F) ?_;simp only[go_sem,<-List.map_drop];refine⟨fun _=>⟨⟨E,by omega⟩,Gy l⟩,_,fun _=>(EC (l.drop I.toNat) a (by simp;omega)).q rfl,?_⟩;simp only[go_sem];refine bR ?_;unfold E7;rw[J,h0];rfl
theorem Z4(x:Instance)(v:Visit):PC prog 307 [.agg (aJ v),.rp (aD x) 0] (boo (cC v.order x.orders.length)):=by
 refine pcd Tryz.func307 ?_;unfold Tryz.f307;simp only[gdS];simp only[go_sem];exact .refl _
theorem YP(x:Instance)(v:Visit)(h:cC v.order x.orders.length=false):PC prog 308 [.agg (aJ v),.rp (aD x) 0] (boo (tW x v.order)):=by
 have F:0<=v.order/\v.order<(x.orders.length:Int):=by simp only[cC,Xaf,decide_eq_false_iff_not]at h;omega
 obtain⟨o,E⟩:=aN (show v.order.toNat<x.orders.length by omega);refine pcd Tryz.func308 ?_;unfold Tryz.f308;simp only[gdS];simp only[go_sem];simp only[go_sem,aC E,F];exact bR (by unfold tW;rw[E])
def pU(x:Instance)(l:List Visit):Int:=
 if((l.length:Int) == 0||l.any fun v=>cC v.order x.orders.length)=true then 2
 else if(l.any fun v=>tW x v.order)=true then 9
 else if((List.range l.length).any (pO l))=true then 6
 else if(!l.all (uU x.orders l))=true then 19
 else if(x.apart.any fun q=>iF l q.a&&iF l q.b)=true then 20
 else if(x.before.any fun q=> !E7 l q.a q.b)=true then 21 else 0
theorem GC(x:Instance)(r:Route)(hl:r.visits.length<=1048576)(ha:x.apart.length<=1048576)(hb:x.before.length<=1048576):PC prog 272 [.agg (aD x),.agg (bT r)] (int (pU x r.visits)):=by
 refine pcd Tryz.func272 ?_;unfold Tryz.f272;simp only[gdS];simp only[go_sem];refine⟨_,fun _=>(rS (p:=fun v=>cC v.order x.orders.length) r.visits hl (by simp only[go_sem]) fun v _=>Z4 x v).q rfl,?_⟩;simp only[go_sem];refine aB (fun c1=>?_) (fun c1=>?_)
 . simp only[go_sem]
   exact bJ (by unfold pU;rw[if_pos c1])
 have ae:∀v∈r.visits,cC v.order x.orders.length=false:=fun v hv=>by
   rw[Xaf]at c1;have:=Xay.1 c1.2 v hv;simpa using this
 have c1:¬((r.visits.length:Int) == 0||r.visits.any fun v=>cC v.order x.orders.length)=true:=by rw[c1];simp
 simp only[go_sem];refine PC.use (rS (p:=fun v=>tW x v.order) r.visits hl (by simp only[go_sem]) fun v hv=>YP x v (ae v hv)) ?_;simp only[go_sem];refine aB (fun c2=>?_) (fun c2=>?_)
 . simp only[go_sem]
   exact bJ (by unfold pU;rw[if_neg c1,if_pos c2])
 have c2:¬(r.visits.any fun v=>tW x v.order)=true:=by rw[c2];simp
 simp only[go_sem];refine PC.use (aeN r.visits hl) ?_;simp only[go_sem];refine aB (fun c3=>?_) (fun c3=>?_)
 . simp only[go_sem]
   exact bJ (by unfold pU;rw[if_neg c1,if_neg c2,if_pos c3])
 have c3:¬((List.range r.visits.length).any (pO r.visits))=true:=by rw[c3];simp
 simp only[go_sem];refine PC.use (Ym x r.visits hl) ?_;simp only[go_sem];refine aB (fun c4=>?_) (fun c4=>?_)
 . simp only[go_sem]
   exact bJ (by unfold pU;rw[if_neg c1,if_neg c2,if_neg c3,if_pos c4])
 have c4:¬(!r.visits.all (uU x.orders r.visits))=true:=by rw[c4];simp
 simp only[go_sem];refine⟨fun ρ _=>∃k:Nat,k<=x.apart.length/\ρ 2=.rp (aD x) 0/\ρ 5=.sl (r.visits.map aJ)/\ρ 33=.sl (x.apart.map cU)/\ρ 34=int x.apart.length/\ρ 35=int k/\∀q∈x.apart.take k,(iF r.visits q.a&&iF r.visits q.b)=false,fun ρ _=>x.apart.length-aV (ρ 35),⟨0,Xab _,by simp only[go_sem],by simp only[go_sem],by simp only[go_sem],by simp only[go_sem],by simp only[go_sem];rfl,by simp⟩,?_⟩;rintro ρ H ⟨k,hk,h2,J,F,I,O,hz⟩;simp only[go_sem,h2,J,F,I,O];refine aB (fun E=>?_) (fun V=>?_)
 . have E:=aQ E
   obtain⟨q,hq⟩:=aN E;have b1:=inB E;simp only[go_sem,h2,J,F,I,O,aC hq,b1];refine aL fun i7 ad=>?_
   simp only[go_sem,h2,J,F,I,O];refine aH (aA _ _ _) (by simp[mO]) ?_;generalize ab:aI (aI _ i7 _) i7 _=HGi7;have R7:HGi7 i7=some (⟨194,2,[cU q]⟩):=by rw[<-ab,aA];try rfl
   clear ab ad;simp only[go_sem,h2,J,F,I,O,R7];refine⟨by decide,PC.use (EC r.visits q.a hl) ?_⟩;simp only[go_sem,h2,J,F,I,O,R7];refine⟨fun _=>by decide,_,fun _=>(EC r.visits q.b hl).q rfl,?_⟩;simp only[go_sem,h2,J,F,I,O];refine aB (fun U=>?_) (fun U=>?_)
   . simp only[go_sem]
     exact bJ (by unfold pU;rw[if_neg c1,if_neg c2,if_neg c3,if_neg c4,if_pos (Xan.2 ⟨q,Xac hq,U⟩)])
   . simp only[go_sem,h2,J,F,I,O,aT (show k<=4611686018427387904 by omega)]
     exact⟨⟨k+1,E,rfl,aM (p:=fun q:Pair=>(iF r.visits q.a&&iF r.visits q.b)=false) hq U hz⟩,by simp only[aE];omega⟩
 have V:=aR hk V;subst V;rw[Xag]at hz;have c5:¬(x.apart.any fun q=>iF r.visits q.a&&iF r.visits q.b)=true:=by rw[pF hz];simp
 simp only[go_sem,h2,J];refine⟨fun ρ _=>∃k:Nat,k<=x.before.length/\ρ 5=.sl (r.visits.map aJ)/\ρ 51=.sl (x.before.map cU)/\ρ 52=int x.before.length/\ρ 53=int k/\∀q∈x.before.take k,(!E7 r.visits q.a q.b)=false,fun ρ _=>x.before.length-aV (ρ 53),⟨0,Xab _,by simp only[go_sem,J],by simp only[go_sem],by simp only[go_sem],by simp only[go_sem];rfl,by simp⟩,?_⟩;clear h2 J F I O hz hk;rintro ρ H ⟨k,hk,J,X,Z,Y,hz⟩;simp only[go_sem,J,X,Z,Y];refine aB (fun E=>?_) (fun V=>?_)
 . have E:=aQ E
   obtain⟨q,hq⟩:=aN E;have b1:=inB E;simp only[go_sem,J,X,Z,Y,aC hq,b1];refine aL fun i9 ac=>?_
   simp only[go_sem,J,X,Z,Y];refine aH (aA _ _ _) (by simp[mO]) ?_;generalize aa:aI (aI _ i9 _) i9 _=HGi9;have R9:HGi9 i9=some (⟨194,2,[cU q]⟩):=by rw[<-aa,aA];try rfl
   clear aa ac;simp only[go_sem,J,X,Z,Y,R9];refine⟨by decide,⟨by decide,PC.use (X1 r.visits q.a q.b hl) ?_⟩⟩;simp only[go_sem,J,X,Z,Y];refine aB (fun U=>?_) (fun U=>?_)
   . simp only[go_sem]
     exact bJ (by unfold pU;rw[if_neg c1,if_neg c2,if_neg c3,if_neg c4,if_neg c5,if_pos (Xan.2 ⟨q,Xac hq,U⟩)])
   . simp only[go_sem,J,X,Z,Y,aT (show k<=4611686018427387904 by omega)]
     exact⟨⟨k+1,E,rfl,aM (p:=fun q:Pair=>(!E7 r.visits q.a q.b)=false) hq U hz⟩,by simp only[aE];omega⟩
 have V:=aR hk V;subst V;rw[Xag]at hz;simp only[go_sem];exact bJ (by unfold pU;rw[if_neg c1,if_neg c2,if_neg c3,if_neg c4,if_neg c5,if_neg (by rw[pF hz];simp)])
def eD(x:Instance)(v:Visit):Stop×Int:=if(bA x v).2=true then((bA x v).1,0)else(jU,if cC v.order x.orders.length=true then 2 else 19)
theorem Uq(x:Instance)(v:Visit):PC prog 191 [.sl (x.orders.map bI),.agg (aJ v)] (.tup [.agg (dV (eD x v).1),int (eD x v).2]):=by
 refine pcd Tryz.func191 ?_;unfold Tryz.f191;simp only[gdS];simp only[go_sem];refine aL fun Y aa=>?_
 generalize O:aI _ Y _=HGi4;have F:HGi4 Y=some (xK jU):=by rw[<-O,aA];try rfl
 clear O aa;simp only[go_sem,F];refine PC.use (US x.orders v.order) ?_;simp only[go_sem];refine aB (fun h1=>?_) (fun h1=>?_)
 . have h1:cC v.order x.orders.length=true:=by simpa using h1
   have e:eD x v=(jU,2):=by unfold eD bA;rw[if_pos h1,if_pos h1];rfl
   rw[e];simp only[go_sem];refine aH F (by simp) ?_;simp only[go_sem];exact .refl _
 have h1:cC v.order x.orders.length=false:=by simpa using h1
 have ab:0<=v.order/\v.order<(x.orders.length:Int):=by
   simp only[cC,Xaf,decide_eq_false_iff_not]at h1;omega
 obtain⟨o,ho⟩:=aN (show v.order.toNat<x.orders.length by omega);have e0:bA x v=(mW o v,decide ((mW o v).place>=0)):=by unfold bA;rw[if_neg (by rw[h1];simp),ho]
 have e:eD x v=if(mW o v).place<0 then(jU,19)else(mW o v,0):=by
   unfold eD;rw[e0,if_neg (show ¬cC v.order x.orders.length=true by rw[h1];simp)];by_cases h:(mW o v).place<0
   . rw[if_pos h,if_neg (by simp;omega)]
   . rw[if_neg h,if_pos (by simp;omega)]
 rw[e];simp only[go_sem,aC ho,ab];refine aL fun X J=>?_
 have E:Y≠X:=aP F J;simp only[go_sem,F];refine aH (aA _ _ _) (by simp[gO]) ?_;generalize I:aI (aI _ X _) X _=HGi6;replace F:=kpR I E E F;have U:HGi6 X=some (xK o.pick):=by rw[<-I,aA];try rfl
 clear I J;simp only[go_sem,U,F];refine bK (fun Z H'=>Z 4=.op Y 0 0/\Z 6=.op X 0 0/\H' Y=some (xK jU)/\H' X=some (xK (mW o v))) ?_ fun K hK=>aB (fun hb=>?_) (fun hb=>?_)
 . clear F U
   rintro ρ H ⟨h4,h6,F,U⟩;simp only[go_sem,h4,h6,U];refine aB (fun V=>?_) (fun V=>?_)
   . have V:(mW o v).place<0:=by simpa using V
     rw[if_pos V];simp only[go_sem,h4];refine aH F (by simp) ?_;simp only[go_sem,h4];exact .refl _
   . have V:¬(mW o v).place<0:=by simpa using V
     rw[if_neg V];simp only[go_sem,h4,h6,U];refine aH F (by simp[gO]) ?_;simp only[go_sem,h4];exact .refl _
 . simp only[go_sem,aC ho,ab]
   refine aH U (by simp[gO]) ?_;simp only[go_sem];refine hK _ _ ⟨by simp only[go_sem],by simp only[go_sem],by rw[aF _ _ _ _ E];exact F,?_⟩;rw[aA,mW,if_pos hb];rfl
 . simp only[go_sem]
   refine hK _ _ ⟨by simp only[go_sem],by simp only[go_sem],F,?_⟩;rw[mW,if_neg (by rw[hb];simp)];exact U
end Go.Proofs.YtohmomanmikphaaGreatDoor.Sq
end
