import Derived.Test.YtdlijlecpopadaaGreatDoorZu18
import Derived.Test.YtdlijlecpopadaaGreatDoorZu19
set_option linter.unusedSimpArgs false
set_option linter.unusedVariables false
set_option maxRecDepth 100000
section
namespace Go.Proofs.YtdlijlecpopadaaGreatDoor.Sq
open Go.Proofs.Tryz(prog)
open Go.Aw Go.Aw.D Go.Proofs Ty
open Go.Proofs.YtdlijlecpopadaaGreatDoor.Nu (ltB geB)
open Mv (bZ cQ NC.pc aT)
def anQ(s:Score):Int:=IntKind.i64.wrap (IntKind.i64.wrap (IntKind.i64.wrap (IntKind.i64.wrap (IntKind.i64.wrap (IntKind.i64.wrap (s.cost*16)+s.moved)*16)+s.other)*65536)+s.work)
def mP(s:Score):Int×Int:=if(decide (s.cost<0)||decide (s.moved<0)||decide (s.other<0)||decide (s.work<0))=true then(0,2)
 else if(decide (s.cost>1073741824)||decide (s.moved>=16)||decide (s.other>=16)||decide (s.work>=65536))=true then(0,4)else(anQ s,0)
theorem Xl(s:Score):PC prog 221 [.agg (gC s)] (.agg (gC s)):=by
 refine pcd Tryz.func221 ?_;unfold Tryz.f221;simp only[gdS];simp only[go_sem];refine aN fun j E=>?_
 simp only[go_sem];refine aM (aA _ _ _) (by simp) ?_;simp only[go_sem];exact .refl _
theorem U5(s:Score):PC prog 175 [.agg (gC s)] (.tup [int (mP s).1,int (mP s).2]):=by
 refine pcd Tryz.func175 ?_;unfold Tryz.f175;simp only[gdS];simp only[go_sem];refine PC.use (Xl s) ?_;simp only[go_sem];refine aN fun j aa=>?_
 simp only[go_sem];refine aM (aA _ _ _) (by simp[oM]) ?_;generalize Y:aI (aI _ j _) j _=HGj;have R:HGj j=some (⟨277,4,[gC s]⟩):=by rw[<-Y,aA];try rfl
 clear Y aa;simp only[go_sem,R];refine⟨fun ρ H=>∃(k:Nat),k<=4/\ρ 1=.rp (gC s) 0/\ρ 9=.agg (gC s)/\ρ 10=int k/\(∀e∈[s.cost,s.moved,s.other,s.work].take k,¬e<0),fun ρ _=>4-aX (ρ 10),⟨0,Xab _,by simp only[go_sem],by simp only[go_sem],(by simp only[go_sem];rfl),by simp⟩,?_⟩;rintro ρ H ⟨k,hk,J,O,E,X⟩;simp only[go_sem,J,O,E];refine aB (fun F=>?_) (fun I=>?_)
 . have F:k<4:=by simp at F;omega
   obtain⟨e,he⟩:=aQ (l:=[s.cost,s.moved,s.other,s.work]) (show k<[s.cost,s.moved,s.other,s.work].length from F);have hg:(gC s).getD k .any=int e:=by
     have:gC s=[s.cost,s.moved,s.other,s.work].map fun n=>int n:=rfl
     rw[this,List.getD,List.getElem?_map,he];rfl
   simp only[go_sem,J,O,E];refine⟨by omega,by omega,?_⟩;rw[Nat.mul_one,hg];simp only[go_sem,J,O,E];refine aB (fun Z=>?_) (fun Z=>?_)
   . simp only[go_sem]
     have hm:=Xad he;simp only[Xbi,List.not_mem_nil,or_false]at hm;have e:mP s=(0,2):=if_pos (by simp at Z |-;rcases hm with h|h|h|h <;> omega);rw[e];exact .refl _
   . simp only[go_sem,J,O,E,aS (show k<=4611686018427387904 by omega)]
     refine⟨⟨k+1,F,rfl,aT (p:=fun e:Int=>¬e<0) he (by simpa using Z) X⟩,by simp only[aG];omega⟩
 have I:k=4:=by simp at I;omega
 subst I;have Z:¬(decide (s.cost<0)||decide (s.moved<0)||decide (s.other<0)||decide (s.work<0))=true:=by
   have h0:=X s.cost (by simp);have h1:=X s.moved (by simp);have h2:=X s.other (by simp);have h3:=X s.work (by simp);simp;omega
 unfold mP;rw[if_neg Z];simp only[go_sem,J,O,E];refine aB (fun hc=>?_) (fun hc=>?_)
 . rw[if_pos hc]
   simp only[go_sem];exact .refl _
 rw[if_neg (by rw[hc];simp)];simp only[go_sem,J,O,E];exact .refl _
def kF(x:Instance)(r:Route):Int×Int:=if((lZ x r).2.2 != 0)=true then(0,(lZ x r).2.2)else mP (lZ x r).2.1
theorem ZP(x:Instance)(r:Route)(hx:EvalB x)(hr:r.visits.length<=1048575):PC prog 123 [.agg (aL x),.agg (dO r)] (.tup [int (kF x r).1,int (kF x r).2]):=by
 have hw:=U5 (lZ x r).2.1;refine pcd Tryz.func123 ?_;unfold Tryz.f123;simp only[gdS];simp only[go_sem];refine PC.use (Pt x r hx hr) ?_;simp only[go_sem];refine aN fun Y aa=>?_
 generalize J:aI _ Y _=HGi6;have I:HGi6 Y=some (iP (dB cN)):=by rw[<-J,aA];try rfl
 clear J aa;simp only[go_sem,I];refine aN fun i7 O=>?_
 have E:Y≠i7:=aO I O;generalize F:aI _ i7 _=HGi7;replace I:=(congrFun F.symm Y).trans ((aD _ _ _ _ E).trans I);have X:HGi7 i7=some (pE dI):=by rw[<-F,aA];try rfl
 clear F O;simp only[go_sem,X,I];refine aM I (by simp[jU]) ?_;generalize Z:aI _ Y _=HP;replace X:=(congrFun Z.symm i7).trans ((aD _ _ _ _ (by first|exact ne_i7_i6|exact E.symm)).trans X);replace I:HP Y=some (iP (dB (lZ x r).1)):=by rw[<-Z,aA];rfl
 clear Z;simp only[go_sem,I,X];refine aM X (by simp[oM]) ?_;generalize Z:aI _ i7 _=HP;replace I:=(congrFun Z.symm Y).trans ((aD _ _ _ _ (by first|exact E|exact ne_i7_i6.symm)).trans I);replace X:HP i7=some (pE (lZ x r).2.1):=by rw[<-Z,aA];rfl
 clear Z;simp only[go_sem,X,I];unfold kF;refine aB (fun hb=>?_) (fun hb=>?_)
 . rw[if_pos hb]
   simp only[go_sem];exact .refl _
 . rw[if_neg (by rw[hb];simp)]
   simp only[go_sem,X];refine PC.use hw ?_;simp only[go_sem];exact .refl _
structure Sta where
 ready:Int
 driven:Int
def gS(s:Sta):List AV:=[int s.ready,int s.driven]
theorem FU(c:Sta):(gS c).length=2:=(rfl)
theorem Zm(c:Sta):(gS c).getD 0 .any=int c.ready:=(rfl)
theorem XV(c:Sta):(gS c).getD 1 .any=int c.driven:=(rfl)
theorem Qv(c:Sta):(gS c).take 2=gS c:=(rfl)
attribute [go_sem] FU Zm XV Qv
abbrev nO(l:List Sta):Row:=⟨203,2,l.map gS⟩
def GG(s u:Sta):Bool:=s.ready == u.ready&&(s.driven == u.driven&&true)
theorem acA(l:List Sta)(v:Sta)(hl:l.length<=1048576):PC prog 225 [.sl (l.map gS),.agg (gS v)] (int (nE (GG v) l 0)):=by
 refine pcd Tryz.func225 ?_;unfold Tryz.f225;simp only[gdS];simp only[go_sem];refine⟨fun ρ _=>∃k:Nat,k<=l.length/\ρ 0=.sl (l.map gS)/\ρ 3=.rp (gS v) 0/\ρ 7=int l.length/\ρ 8=int k/\∀u∈l.take k,GG v u=false,fun ρ _=>l.length-aX (ρ 8),⟨0,Xab _,rfl,rfl,rfl,rfl,by simp⟩,?_⟩;rintro ρ H ⟨k,hk,h0,Y,O,J,X⟩;simp only[go_sem,h0,Y,O,J];refine aB (fun E=>?_) (fun F=>?_)
 . have E:=aZ E
   obtain⟨u,Z⟩:=aQ E;have b1:=inB E;simp only[go_sem,h0,Y,O,J];refine fV (by rfl) (by kernel_rfl) ?_;simp only[go_sem,h0,Y,O,J,aH Z,b1];refine aB (fun I=>?_) (fun I=>?_)
   . have I:GG v u=true:=I
     simp only[go_sem,J];exact bZ (by rw[lE X Z I];omega)
   . have I:GG v u=false:=I
     simp only[go_sem,h0,Y,O,J,aS (show k<=4611686018427387904 by omega)];exact⟨⟨k+1,E,rfl,aT (p:=fun u=>GG v u=false) Z I X⟩,by simp only[aG];omega⟩
 . have F:=bD hk F
   subst F;rw[Xaf]at X;simp only[go_sem];exact bZ (by rw[jQ X])
theorem DY(l:List Sta)(v:Sta)(E:l.length<=1048576):PC prog 178 [.sl (l.map gS),.agg (gS v)] (boo (l.any (GG v))):=by
 refine pcd Tryz.func178 ?_;unfold Tryz.f178;simp only[gdS];simp only[go_sem];refine PC.use (acA l v E) ?_;simp only[go_sem];exact cQ (mE l 0 (Xaj _))
def AA(l:List Sta)(s:Sta):List Sta:=if l.any (GG s)=true then l else l++[s]
theorem Da(l:List Sta)(s:Sta):(AA l s).length<=l.length+1:=by unfold AA;split <;> simp
theorem abO(l:List Visit)(E:l.length<=1048576):PC prog 128 [.sl (l.map aK)] (.cl (l.map aK)):=by
 refine pcd Tryz.func128 ?_;unfold Tryz.f128;simp only[gdS];simp only[go_sem];exact .refl _
theorem anU(s:Sta):NC prog 129 [.v (.slice none 0 0),.agg (gS s)] (nO [s]) .os:=by
 refine ncb (fun _=>false) Tryz.func129 ?_;unfold Tryz.f129;simp only[gdS];simp only[go_sem];refine bA.nil0 (PC.use (DY [] s (by decide)) ?_);simp only[go_sem];refine aB (fun E=>(by cases E)) (fun _=>?_);simp only[go_sem];refine Zx ajW (.inl rfl) (by simp) (by simp only[go_sem]) (by simp) fun j F=>?_
 simp only[go_sem];exact⟨j,rfl,aA _ _ _⟩
abbrev akX(j:Nat)(H:aJ)(j':Nat)(H':aJ):Prop:=∀k row,k≠j->H k=some row->k≠j'/\H' k=some row
theorem Qa(l:List Sta)(s:Sta){H:aJ}{j:Nat}(R:H j=some (nO l))(Z:l.length<=1000000){K:AV->aJ->Prop}(X:∀F H',H' F=some (nO (AA l s))->akX j H F H'->K (.os F) H'):
   bA prog 129 [.os j,.agg (gS s)] H K:=by
 refine bA.body (c:=Tryz.f129.body.getD .skip) (fun _=>false) mixed Tryz.func129 rfl (by kernel_rfl) ?_;unfold Tryz.f129;simp only[gdS];simp only[go_sem];refine dG.use ⟨[.sl (l.map gS),.agg (gS s)],.cons _ _ _ _ (.row _ _ _ R (ConvE.refl _)) (ConvL.refl _),DY l s (by omega),rfl⟩ ?_;simp only[go_sem];refine aB (fun O=>?_) (fun O=>?_)
 . simp only[go_sem]
   refine X j H (by unfold AA;rw[if_pos O];exact R) fun k row I h=>⟨I,h⟩
 . simp only[go_sem]
   refine bG R ⟨rfl,rfl⟩ (by simp only[go_sem]) (by simp only[Xaa,Xac,List.length_nil];omega) (fun Y J=>?_);simp only[go_sem];refine X Y _ ?_ fun k row I h=>?_
   . rw[aA]
     unfold AA;rw[if_neg (by rw[O];simp)];refine congrArg (fun l=>some (⟨203,2,l⟩:Row)) ?_;rw[Xat];rfl
   . have E:k≠Y:=fun e=>by subst e;rw[J]at h;cases h
     exact⟨E,by rw[aD _ _ _ _ E,aD _ _ _ _ I];exact h⟩
structure Sr where
 x:Instance
 kind:Nat
 set:Int
 total:Nat
 best:Column
 found:Bool
def uA(s:Sr):List AV:=aL s.x++([int (s.kind:Nat),int s.set,int (s.total:Nat)]++(eT s.best++[boo s.found]))
section
variable(s:Sr)
theorem pL:(uA s).length=17:=(rfl)
theorem afY:(uA s).getD 2 .any=.sl (s.x.types.map aY):=(rfl)
theorem ahX:(uA s).getD 3 .any=.sl (s.x.orders.map bF):=(rfl)
theorem agW:(uA s).getD 6 .any=int (s.kind:Nat):=(rfl)
theorem afC:(uA s).getD 7 .any=int s.set:=(rfl)
theorem agI:(uA s).getD 8 .any=int (s.total:Nat):=(rfl)
theorem abC:(uA s).getD 16 .any=boo s.found:=(rfl)
theorem agO:(uA s).take 6=aL s.x:=(rfl)
theorem VP:(uA s).take 2=aV s.x.net:=(rfl)
theorem Qn:((uA s).drop 9).take 7=eT s.best:=(rfl)
theorem Wa:(uA s).take 17=uA s:=(rfl)
end
attribute [go_sem] pL afY ahX agW afC agI abC agO VP Qn Wa
abbrev kX(s:Sr):Row:=⟨121,17,[uA s]⟩
def tC(t:VType)(l:List Sta)(d dr:Int):List Sta:=AA (AA l ⟨d,dr⟩) ⟨W (d+t.rest),0⟩
theorem F7(t:VType)(l:List Sta)(d dr:Int):(tC t l d dr).length<=l.length+2:=by
 unfold tC;have h1:=Da (AA l ⟨d,dr⟩) ⟨W (d+t.rest),0⟩;have E:=Da l ⟨d,dr⟩;omega
theorem Zn(s:Sr)(t:VType)(l:List Sta)(d dr:Int){H:aJ}{E j:Nat}(ht:s.x.types[s.kind]?=some t)(RS:H E=some (kX s))(R:H j=some (nO l))(hl:l.length<=900000){K:AV->aJ->Prop}
   (hK:∀j' H',H' j'=some (nO (tC t l d dr))->akX j H j' H'->K (.os j') H'):bA prog 66 [.op E 0 0,.os j,int d,int dr] H K:=by
 have aa:E≠j:=fun e=>by subst e;rw[RS]at R;cases R
 have hk:=(List.getElem?_eq_some_iff.1 ht).1;have b1:=inB hk;have g1:=aH (f:=aY) ht;have h1:=Da l ⟨d,dr⟩;refine bA.body (c:=Tryz.f66.body.getD .skip) (fun _=>false) mixed Tryz.func66 rfl (by kernel_rfl) ?_;unfold Tryz.f66;simp only[gdS];simp only[go_sem];refine Qa l ⟨d,dr⟩ R (by omega) fun j1 H1 R1 X=>?_
 obtain⟨n1,I⟩:=X E _ aa RS;simp only[go_sem];refine dP [E] [(0,true),(1,true),(2,true),(3,true),(4,true),(5,true),(6,true),(7,true),(8,true),(9,true),(10,true),(11,true),(12,true),(13,true),(14,true),(15,true),(16,false),(17,true)] (by simp[I]) (by kernel_rfl) fun Hp Hr hp hr _ ae=>?_
 have F:=(hp E (by simp)).trans I;simp only[go_sem,g1,b1,F];have Z:Hr j1=some (nO (AA l ⟨d,dr⟩)):=(hr j1 (by simpa using n1.symm)).trans R1;refine Qa (AA l ⟨d,dr⟩) ⟨W (d+t.rest),0⟩ Z (by omega) fun j2 H2 R2 ad=>?_
 simp only[go_sem];refine fun h0 Hm ab J=>?_
 have Y:j2≠E:=fun e=>by have:=h0 E (by simp);rw[<-e,R2]at this;cases this
 simp only[go_sem];refine hK j2 Hm ((J j2 (by simpa using Y)).trans R2) fun k row ac O=>?_
 obtain⟨m1,m2⟩:=X k row ac O;by_cases e:k=E
 . subst e
   exact⟨Y.symm,(ab k (by simp)).trans m2⟩
 . obtain⟨m3,m4⟩:=ad k row m1 ((hr k (by simpa using e)).trans m2)
   exact⟨m3,(J k (by simpa using e)).trans m4⟩
theorem XW(s:Sr)(t:VType)(d dr:Int){H:aJ}{E:Nat}(ht:s.x.types[s.kind]?=some t)(RS:H E=some (kX s)){K:AV->aJ->Prop}
   (hK:∀j' H',H' j'=some (nO (tC t [] d dr))->(∀k row,H k=some row->k≠j'/\H' k=some row)->K (.os j') H'):bA prog 66 [.op E 0 0,.v (.slice none 0 0),int d,int dr] H K:=by
 have hk:=(List.getElem?_eq_some_iff.1 ht).1;have b1:=inB hk;have g1:=aH (f:=aY) ht;refine bA.body (c:=Tryz.f66.body.getD .skip) (fun _=>false) mixed Tryz.func66 rfl (by kernel_rfl) ?_;unfold Tryz.f66;simp only[gdS];simp only[go_sem];refine NC.use (anU ⟨d,dr⟩) fun j1 Y=>?_
 have n1:E≠j1:=fun e=>by rw[e,Y]at RS;cases RS
 have I:aI H j1 (some (nO [⟨d,dr⟩])) E=some (kX s):=(aD _ _ _ _ n1).trans RS;have R1:aI H j1 (some (nO [⟨d,dr⟩])) j1=some (nO [⟨d,dr⟩]):=aA _ _ _;have ac:∀k row,H k=some row->k≠j1/\aI H j1 (some (nO [⟨d,dr⟩])) k=some row:=fun k row h=>by
   have J:k≠j1:=fun e=>by rw[e,Y]at h;cases h
   exact⟨J,(aD _ _ _ _ J).trans h⟩
 generalize aI H j1 (some (nO [⟨d,dr⟩]))=H1 at *;simp only[go_sem];refine dP [E] [(0,true),(1,true),(2,true),(3,true),(4,true),(5,true),(6,true),(7,true),(8,true),(9,true),(10,true),(11,true),(12,true),(13,true),(14,true),(15,true),(16,false),(17,true)] (by simp[I]) (by kernel_rfl) fun Hp Hr hp hr _ ae=>?_
 have F:=(hp E (by simp)).trans I;simp only[go_sem,g1,b1,F];have aa:Hr j1=some (nO [⟨d,dr⟩]):=(hr j1 (by simpa using n1.symm)).trans R1;refine Qa [⟨d,dr⟩] ⟨W (d+t.rest),0⟩ aa (by simp) fun j2 H2 R2 ad=>?_
 simp only[go_sem];refine fun h0 Hm ab O=>?_
 have Z:j2≠E:=fun e=>by have:=h0 E (by simp);rw[<-e,R2]at this;cases this
 simp only[go_sem];refine hK j2 Hm ((O j2 (by simpa using Z)).trans R2) fun k row X=>?_
 obtain⟨m1,m2⟩:=ac k row X;by_cases e:k=E
 . subst e
   exact⟨Z.symm,(ab k (by simp)).trans m2⟩
 . obtain⟨m3,m4⟩:=ad k row m1 ((hr k (by simpa using e)).trans m2)
   exact⟨m3,(O k (by simpa using e)).trans m4⟩
def NQ(n:Network)(t:VType)(src:Int)(st:Stop)(out:List Sta)(a:Sta):List Sta:=
 let g:=dH n t.profile src st.place a.ready
 if(g.2.2 != 0||decide (W (W (a.driven+g.1)-a.ready)>t.drive))=true then out
 else if((Rx.gK st g.1).2 != 0)=true then out
 else tC t out (Rx.gK st g.1).1 (W (W (a.driven+g.1)-a.ready))
def Be(n:Network)(t:VType)(src:Int)(st:Stop)(l:List Sta):List Sta:=l.foldl (NQ n t src st) []
theorem XU(n:Network)(t:VType)(src:Int)(st:Stop)(out:List Sta)(a:Sta):(NQ n t src st out a).length<=out.length+2:=by
 unfold NQ;simp only;split
 . omega
 . split
   . omega
   . exact F7 _ _ _ _
theorem A6(n:Network)(t:VType)(src:Int)(st:Stop)(l:List Sta):∀k,((l.take k).foldl (NQ n t src st) []).length<=2*k
 | 0=>by simp
 | k+1=>by
   have h:=A6 n t src st l k;by_cases F:k<l.length
   . obtain⟨c,E⟩:=aQ F
     rw[eY E];exact Xah (XU n t src st _ c) (by omega)
   . rw[Xaw (by omega)]
     rw[Xaw (by omega)]at h;omega
theorem Zv(H0:aJ)(js:Nat)(s:Sr)(t:VType)(hj:H0 js=some (kX s))(ht:s.x.types[s.kind]?=some t)(src:Int)(l:List Sta)(st:Stop)(hn:NetOk s.x.net)(hl:l.length<=400000):
   LC prog 127 [.op js 0 0,int src,.sl (l.map gS),.agg (dZ st)] H0 (.sl ((Be s.x.net t src st l).map gS)):=by
 have hk:=(List.getElem?_eq_some_iff.1 ht).1;have b1:=inB hk;have g1:=aH (f:=aY) ht;refine LC.body (c:=Tryz.f127.body.getD .skip) (fun t=>t == 10) mixed Tryz.func127 rfl (by kernel_rfl) ?_;unfold Tryz.f127;simp only[gdS];simp only[go_sem];have U:=Sup.refl H0;have ae:=U.at hj;refine dP [js] [(0,true),(1,true),(2,true),(3,true),(4,true),(5,true),(6,true),(7,true),(8,true),(9,true),(10,true),(11,false),(12,false)] (by simp[ae]) (by kernel_rfl) fun Hp Hr hp hr _ au=>?_
 have Z:=(hp js (by simp)).trans ae;simp only[go_sem,g1,b1,Z];refine aN fun i9 aw=>?_
 simp only[go_sem];refine aM (aA _ _ _) (by simp[oU]) ?_;refine nM hr aw fun al=>?_
 have ak:=U.none al;generalize af:aI (aI _ i9 _) i9 _=HGi9;replace U:=Sup.eq ((U.upd ak _).upd ak _) af;have R9:HGi9 i9=some ((⟨87,14,[aY t]⟩:Row)):=by rw[<-af,aA];try rfl
 clear af al;simp only[go_sem,R9];refine aN fun j ap=>?_
 have ag:i9≠j:=aO R9 ap;have ar:=U.none ap;generalize aj:aI _ j _=HGj;replace U:=Sup.eq (U.upd ar _) aj;replace R9:=(congrFun aj.symm i9).trans ((aD _ _ _ _ ag).trans R9);have R:HGj j=some (nO []):=by rw[<-aj,aA];try rfl
 clear aj ap;simp only[go_sem,R,R9];refine⟨fun ρ H=>∃(k:Nat) (j:Nat),k<=l.length/\ρ 0=.op js 0 0/\ρ 1=int src/\ρ 7=.rp (dZ st) 0/\ρ 9=.op i9 0 0/\ρ 28=.sl (l.map gS)/\ρ 29=int (l.length:Nat)/\ρ 30=int k/\ρ 10=.os j/\Sup H0 H/\H0 j=none/\H i9=some (⟨87,14,[aY t]⟩:Row)/\H j=some (nO ((l.take k).foldl (NQ s.x.net t src st) [])),fun ρ _=>l.length-aX (ρ 30),⟨0,j,Xab _,by simp only[go_sem],by simp only[go_sem],by simp only[go_sem],by simp only[go_sem],by simp only[go_sem],by simp only[go_sem,Xaa],(by simp only[go_sem];rfl),by simp only[go_sem],U,ar,R9,R⟩,?_⟩;rintro ρ H ⟨k,j,hk,e0,e1,e7,e9,E,I,F,J,U,nj,R9,R⟩;simp only[go_sem,e0,e1,e7,e9,E,I,F,J];refine aB (fun ad=>?_) (fun aq=>?_)
 . have ad:=ltB (by simpa using ad)
   obtain⟨a,ha⟩:=aQ ad;have d1:=inB ad;have hs:=eY (f:=NQ s.x.net t src st) (b:=([]:List Sta)) ha;have ax:=A6 s.x.net t src st l k;generalize (l.take k).foldl (NQ s.x.net t src st) []=out at *;have av:i9≠j:=fun e=>by subst e;rw[R9]at R;cases R
   simp only[go_sem,e0,e1,e7,e9,E,I,F,J,aH ha,d1];refine aN fun ab aa=>?_
   have Y:j≠ab:=aO R aa;have O:i9≠ab:=aO R9 aa;simp only[go_sem,e0,e1,e7,e9,E,I,F,J,R,R9];refine aM (aA _ _ _) (by simp[FU]) ?_;have ac:=U.none aa;generalize X:aI (aI _ ab _) ab _=HGi12;replace U:=Sup.eq ((U.upd ac _).upd ac _) X;replace R:=(congrFun X.symm j).trans ((aD _ _ _ _ Y).trans ((aD _ _ _ _ Y).trans R));replace R9:=(congrFun X.symm i9).trans ((aD _ _ _ _ O).trans ((aD _ _ _ _ O).trans R9));have ah:HGi12 ab=some ((⟨203,2,[gS a]⟩:Row)):=by rw[<-X,aA];try rfl
   clear X aa;simp only[go_sem,e0,e1,e7,e9,E,I,F,J,ah,R,R9];have ae:=U.at hj;have ne:js≠ab:=Sup.ne (Sup.refl H0) hj ac;refine dP [js,i9,ab] [(0,true),(1,true),(2,true),(3,true),(4,true),(5,true),(6,true),(7,true),(8,true),(9,true),(10,true),(11,true),(12,false),(13,true),(14,true),(15,true),(16,true),(17,true),(18,true),(19,true)] (by simp[ae,R9,ah]) (by kernel_rfl) fun Hp Hr hp hr _ au=>?_
   have Z:=(hp js (by simp)).trans ae;have am:=(hp i9 (by simp)).trans R9;have ai:=(hp ab (by simp)).trans ah;simp only[go_sem,e0,e1,e7,e9,E,I,F,J,Z,am,ai];refine PC.use (TO s.x.net t.profile src st.place a.ready hn) ?_;simp only[go_sem,e0,e1,e7,e9,E,I,F,J,Z,am,ai];refine iY hr ?_;have ha:NQ s.x.net t src st out a=(if((dH s.x.net t.profile src st.place a.ready).2.2 != 0||decide (W (W (a.driven+(dH s.x.net t.profile src st.place a.ready).1)-a.ready)>t.drive))=true then out
     else if((Rx.gK st (dH s.x.net t.profile src st.place a.ready).1).2 != 0)=true then out
     else tC t out (Rx.gK st (dH s.x.net t.profile src st.place a.ready).1).1 (W (W (a.driven+(dH s.x.net t.profile src st.place a.ready).1)-a.ready))):=rfl
   rw[ha]at hs;clear ha;generalize dH s.x.net t.profile src st.place a.ready=g at *;simp only[go_sem,e0,e1,e7,e9,E,I,F,J,R9,ah];refine aB (fun c1=>?_) (fun c1=>?_)
   . have c1:(g.2.2 != 0||decide (W (W (a.driven+g.1)-a.ready)>t.drive))=true:=c1
     rw[if_pos c1]at hs;simp only[go_sem,e0,e1,e7,e9,E,I,F,J,aS (show k<=4611686018427387904 by omega)];refine⟨⟨k+1,j,ad,rfl,rfl,U,nj,R9,?_⟩,by simp only[aG];omega⟩;rw[hs];exact R
   have c1:(g.2.2 != 0||decide (W (W (a.driven+g.1)-a.ready)>t.drive))=false:=c1;rw[if_neg (fun h=>Bool.noConfusion (c1.symm.trans h))]at hs;simp only[go_sem,e0,e1,e7,e9,E,I,F,J];refine PC.use (Rx.Ph st g.1) ?_;simp only[go_sem,e0,e1,e7,e9,E,I,F,J];generalize Rx.gK st g.1=dp at *;refine aB (fun c2=>?_) (fun c2=>?_)
   . rw[if_pos c2]at hs
     simp only[go_sem,e0,e1,e7,e9,E,I,F,J,aS (show k<=4611686018427387904 by omega)];refine⟨⟨k+1,j,ad,rfl,rfl,U,nj,R9,?_⟩,by simp only[aG];omega⟩;rw[hs];exact R
   rw[if_neg (fun h=>Bool.noConfusion (c2.symm.trans h))]at hs;simp only[go_sem,e0,e1,e7,e9,E,I,F,J,ah];refine Zn s t out dp.1 (W (W (a.driven+g.1)-a.ready)) ht ae R (by omega) fun j2 H2 R2 ao=>?_
   simp only[go_sem,e0,e1,e7,e9,E,I,F,J,aS (show k<=4611686018427387904 by omega)];refine⟨⟨k+1,j2,ad,rfl,rfl,fun q row hq=>?_,?_,(ao i9 _ av R9).2,?_⟩,by simp only[aG];omega⟩
   . have an:q≠j:=fun e=>by subst e;rw[nj]at hq;cases hq
     exact(ao q row an (U q row hq)).2
   . cases e:H0 j2 with
     | none=>rfl
     | some row=>
       have an:j2≠j:=fun e2=>by subst e2;rw[nj]at e;cases e
       exact absurd rfl (ao j2 row an (U j2 row e)).1
   . rw[hs];exact R2
 have aq:=geB hk (by simpa using aq);subst aq;rw[Xaf]at R;simp only[go_sem,e0,e1,e7,e9,E,I,F,J];exact⟨U,[j],by simpa using nj,.row _ _ _ (by simp;exact R) (ConvE.refl _)⟩
theorem abU(H0:aJ)(F:Nat)(s:Sr)(t:VType)(d dr:Int)(O:s.x.types[s.kind]?=some t)(Z:H0 F=some (kX s)):
   LC prog 66 [.op F 0 0,.v (.slice none 0 0),int d,int dr] H0 (.sl ((tC t [] d dr).map gS)):=fun K J=>
 bA.data (XW s t d dr O Z fun I H' R E=>⟨fun k row h=>(E k row h).2,[I],fun k Y=>by
   have e:k=I:=by simpa using Y
   subst e;cases X:H0 k with
   | none=>rfl
   | some row=>exact absurd rfl (E k row X).1,.row _ _ _ (by simp;exact R) (ConvE.refl _)⟩) J
end Go.Proofs.YtdlijlecpopadaaGreatDoor.Sq
end
section
namespace Go.Proofs.YtdlijlecpopadaaGreatDoor.Sq
open Go.Proofs.Tryz(prog)
open Go.Aw Go.Aw.D Go.Proofs Ty
open Go.Proofs.YtdlijlecpopadaaGreatDoor.Nu (ltB geB)
open Mv (bZ cQ NC.pc aT)
def LI(a b:Column):Bool:=if(a.price != b.price)=true then decide (a.price<b.price)else decide (Wo a.route.visits b.route.visits<0)
theorem X8(a b:Column)(F:a.route.visits.length<=1048576):PC prog 125 [.agg (eT a),.agg (eT b)] (boo (LI a b)):=by
 refine pcd Tryz.func125 ?_;unfold Tryz.f125;simp only[gdS];simp only[go_sem];unfold LI;refine aB (fun E=>?_) (fun E=>?_)
 . rw[if_pos E]
   simp only[go_sem];exact .refl _
 . rw[if_neg (by rw[E];simp)]
   simp only[go_sem];refine PC.use (aiN a.route.visits b.route.visits F) ?_;simp only[go_sem];exact .refl _
def Ba(best:Column)(fd:Bool)(next:Column):Column:=if(!fd||LI next best)=true then next else best
abbrev oK(c:Column):Row:=⟨66,7,[eT c]⟩
def iJ:Column:=⟨0,0,0,⟨0,0,[],[]⟩⟩
theorem agT(best:Column)(Z:Bool)(next:Column)(hn:next.route.visits.length<=1048576):PC prog 124 [.agg (eT best),boo Z,.agg (eT next),.v (.func (.func 125) #[] #[])] (.agg (eT (Ba best Z next))):=by
 have Y:aE prog 125=true:=by kernel_rfl
 have O:=X8 next best hn
 refine pcd Tryz.func124 ?_;unfold Tryz.f124;simp only[gdS];simp only[go_sem];refine aN fun I X=>?_
 generalize E:aI _ I _=HGi8;have F:HGi8 I=some (oK iJ):=by rw[<-E,aA];try rfl
 clear E X;simp only[go_sem,Y,F];refine⟨_,fun _=>O.q rfl,?_⟩;simp only[go_sem];unfold Ba;refine aB (fun O=>?_) (fun O=>?_)
 . rw[if_pos O]
   simp only[go_sem];refine aM F (by simp[iW]) ?_;generalize J:aI _ I _=HP;replace F:HP I=some (oK next):=by rw[<-J,aA];rfl
   clear J;simp only[go_sem,F];exact .refl _
 . rw[if_neg (fun h=>Bool.noConfusion (O.symm.trans h))]
   simp only[go_sem];refine aM F (by simp[iW]) ?_;generalize J:aI _ I _=HP;replace F:HP I=some (oK best):=by rw[<-J,aA];rfl
   clear J;simp only[go_sem,F];exact .refl _
def nB(s:Sr)(l:List Visit):Route:=⟨(s.kind:Nat),0,[],l⟩
def O7(s:Sr)(l:List Visit)(p:Int):Column:=⟨(s.kind:Nat),s.set,p,nB s l⟩
def P3(s:Sr)(l:List Visit):Sr:=if((kF s.x (nB s l)).2 == 0)=true then { s with best:=Ba s.best s.found (O7 s l (kF s.x (nB s l)).1),found:=true }else s
def AH(t:VType)(rec:Sr->List Visit->Int->List Sta->Sr)(l:List Visit)(src:Int)(st:List Sta)(s:Sr)(v:Visit):Sr:=
 if((dD s.x v).2 != 0)=true then s
 else if(Be s.x.net t src (dD s.x v).1 st).length=0 then s
 else rec s (l++[v]) (dD s.x v).1.place (Be s.x.net t src (dD s.x v).1 st)
def rL(t:VType):Nat->Sr->List Visit->Int->List Sta->Sr
 | 0,s,_,_,_=>s
 | f+1,s,l,src,st=>if((l.length:Int) == (s.total:Int))=true then P3 s l else(yV s.x s.set l).foldl (AH t (rL t f) l src st) s
structure SameB(s s':Sr):Prop where
 x:s'.x=s.x
 kind:s'.kind=s.kind
 set:s'.set=s.set
 total:s'.total=s.total
structure SrB(t:VType)(s:Sr):Prop where
 ty:s.x.types[s.kind]?=some t
 ev:EvalB s.x
 before:s.x.before.length<=1048576
 orders:s.x.orders.length<=60
 total:s.total<=16
theorem SameB.refl(s:Sr):SameB s s:=⟨rfl,rfl,rfl,rfl⟩
theorem SameB.trans{a b c:Sr}(h:SameB a b)(g:SameB b c):SameB a c:=⟨g.x.trans h.x,g.kind.trans h.kind,g.set.trans h.set,g.total.trans h.total⟩
theorem SameB.b{t:VType}{a b:Sr}(h:SameB a b)(g:SrB t a):SrB t b:=⟨by rw[h.x,h.kind];exact g.ty,by rw[h.x];exact g.ev,by rw[h.x];exact g.before,by rw[h.x];exact g.orders,by rw[h.total];exact g.total⟩
theorem V5(s:Sr)(l:List Visit):SameB s (P3 s l):=by unfold P3;split <;> exact⟨rfl,rfl,rfl,rfl⟩
theorem Gp{α:Type}{g:Sr->α->Sr}(E:∀a v,SameB a (g a v)):∀(l:List α) (a:Sr),SameB a (l.foldl g a)
 | [],a=>.refl a
 | v::l,a=>(E a v).trans (Gp E l (g a v))
theorem wD(t:VType):∀(f:Nat) (s:Sr) (l:List Visit) (src:Int) (st:List Sta),SameB s (rL t f s l src st)
 | 0,s,_,_,_=>.refl s
 | f+1,s,l,src,st=>by
   unfold rL;split
   . exact V5 s l
   . refine Gp (fun a v=>?_) _ _
     unfold AH;split
     . exact .refl a
     . split
       . exact .refl a
       . exact wD t f _ _ _ _
theorem aAj{H:aJ}{j:Nat}:(fun q=>if q∈[j]then none else H q)=aI H j none:=funext fun q=>by simp only[aI,Xak]
theorem D7{l:List Nat}{H0 H Y:aJ}{K:Env->aJ->Prop}{ρ:Env}{X E:Nat}{a b:Row}{r5:Option Row}(hr:∀k,k∉l->Y k=H k)(hn:E∉l)(h5:Y X=none)(U:Sup (aI H0 E (some a)) H)
   (h:∀F:aJ,F E=some b->Sup (aI H0 E (some b)) F->K ρ F):mY l H K ρ (aI (aI (aI Y X r5) X none) E (some b)):=fun h0 F h1 h2=>by
 refine h F ((h2 E hn).trans (aA _ _ _)) fun k row O=>?_
 by_cases e:k=E
 . subst e
   rw[aA]at O;rw[h2 k hn,aA];exact O
 . rw[aD _ _ _ _ e]at O
   have Z:=U k row (by rw[aD _ _ _ _ e];exact O);by_cases J:k∈l
   . rw[h1 k J];exact Z
   . have I:k≠X:=fun e2=>by rw[<-e2,hr k J,Z]at h5;cases h5
     rw[h2 k J,aD _ _ _ _ e,aD _ _ _ _ I,aD _ _ _ _ I,hr k J];exact Z
abbrev WQ(t:VType)(js f:Nat):Prop:=∀(s:Sr) (_:SrB t s) (H0:aJ) (_:H0 js=some (kX s)) (l:List Visit) (src:Int) (st:List Sta) (_:l.length<=s.total) (_:s.total-l.length<f) (_:st.length<=2^(l.length+1)),
 MC prog 65 [.op js 0 0,.sl (l.map aK),int src,.sl (st.map gS)] H0 (aI H0 js (some (kX (rL t f s l src st)))) (.tup [])
theorem Hu(t:VType)(js f:Nat)(a7:∀f',f=f'+1->WQ t js f'):WQ t js f:=by
 intro s a4 H0 a6 l src st bw hf bv;obtain⟨f,rfl⟩:∃f',f=f'+1:=⟨f-1,by omega⟩;have a7:=a7 f rfl;have bx:=a4.total;have hj:=a6;have eW:rL t (f+1) s l src st=if((l.length:Int) == (s.total:Int))=true then P3 s l else(yV s.x s.set l).foldl (AH t (rL t f) l src st) s:=rfl
 generalize rL t (f+1) s l src st=RW at *;refine MC.body (c:=Tryz.f65.body.getD .skip) (fun _=>false) (Sd a6) mixed Tryz.func65 rfl (by kernel_rfl) ?_;unfold Tryz.f65;simp only[gdS];simp only[go_sem,hj,Xaa];have U:=Sup.refl H0;refine aB (fun hb=>?_) (fun hb=>?_)
 . rw[if_pos hb]at eW
   subst eW;have eE:P3 s l=if((kF s.x (nB s l)).2 == 0)=true then { s with best:=Ba s.best s.found (O7 s l (kF s.x (nB s l)).1),found:=true }else s:=rfl
   have hP:=ZP s.x (nB s l) a4.ev (by show l.length<=1048575;omega);simp only[go_sem,hj];refine aN fun j8 a5=>?_
   have ai:js≠j8:=aO hj a5;simp only[go_sem,hj];refine aM (aA _ _ _) (by simp[wS]) ?_;have ba:=U.none a5;generalize av:aI (aI _ j8 _) j8 _=HGj8;replace U:=Sup.eq ((U.upd ba _).upd ba _) av;replace hj:=(congrFun av.symm js).trans ((aD _ _ _ _ ai).trans ((aD _ _ _ _ ai).trans hj));have R8:HGj8 j8=some ((⟨64,4,[dO (nB s l)]⟩:Row)):=by rw[<-av,aA];try rfl
   clear av a5;simp only[go_sem,R8,hj];refine dP [js,j8] [(0,true),(1,true),(2,true),(3,true),(4,true),(5,false),(6,true),(7,true),(8,true),(9,true),(10,true)] (by simp[hj,R8]) (by kernel_rfl) fun Hp Hr hp hr _ al=>?_
   have ad:=(hp js (by simp)).trans hj;have an:=(hp j8 (by simp)).trans R8;simp only[go_sem,ad,an];refine PC.use hP ?_;generalize kF s.x (nB s l)=pr at *;simp only[go_sem];refine iY hr ?_;simp only[go_sem];refine aB (fun hc=>?_) (fun hc=>?_)
   case refine_2=>
     rw[if_neg (fun h=>Bool.noConfusion (hc.symm.trans h))]at eE;rw[eE];simp only[go_sem];refine rA.flat ?_ _;rw[LZ a6];exact U
   rw[if_pos hc]at eE;simp only[go_sem];clear hp hr al ad an;refine dP [js,j8] [(0,true),(1,true),(2,true),(3,true),(4,true),(5,true),(6,true),(7,true),(8,true),(9,true),(10,true),(11,false),(12,false)] (by simp[hj,R8]) (by kernel_rfl) fun Hp Hr hp hr _ al=>?_
   have ad:=(hp js (by simp)).trans hj;have an:=(hp j8 (by simp)).trans R8;simp only[go_sem,ad,an];refine aN fun ao bq=>?_
   simp only[go_sem];refine aM (aA _ _ _) (by simp[iW,wS]) ?_;refine nM hr bq fun ap=>?_
   have ae:js≠ao:=aO hj ap;have a8:=U.none ap;generalize ak:aI (aI _ ao _) ao _=HGj11;replace U:=Sup.eq ((U.upd a8 _).upd a8 _) ak;replace hj:=(congrFun ak.symm js).trans ((aD _ _ _ _ ae).trans ((aD _ _ _ _ ae).trans hj));have ax:HGj11 ao=some (oK (O7 s l pr.1)):=by rw[<-ak,aA];try rfl
   clear ak ap;simp only[go_sem,ax,hj];clear hp hr al ad an;have hF:=agT s.best s.found (O7 s l pr.1) (by show l.length<=1048576;omega);generalize b4:Ba s.best s.found (O7 s l pr.1)=fb at *;have bj:js≠ao:=fun e=>by subst e;rw[hj]at ax;cases ax
   refine Cp [ao] (.q 0 (.q 1 (.q 2 (.q 3 (.q 5 (.q 6 (.q 7 (.q 9 (.a2 4 (.a1 8 (.a1 10 (.q 11 (.q 12 (.a1 13 .nil))))) 8 (.a1 4 (.a1 10 (.q 11 (.q 12 (.a1 13 .nil)))))))))))))) (fun ab H'=>ab 0=.op js 0 0/\H' js=some (kX { s with best:=fb })/\Sup (aI H0 js (some (kX { s with best:=fb }))) H') (by simp[ax]) (by kernel_rfl) (fun K' am Hp Hr hp hr _ al=>?_) ?_
   . have bh:=(hp ao (by simp)).trans ax
     have ah:=(hr js (by simpa using bj)).trans hj;simp only[go_sem,bh];refine qO ?_ ?_
     . simp only[go_sem,ah]
       refine PC.use hF ?_;simp only[go_sem,ah];refine aM ah (by simp[pL,iW]) ?_;simp only[go_sem];refine iM hr (by simpa using bj) (am _ _ ⟨by simp only[go_sem],(aA _ _ _).trans rfl,?_⟩);exact U.set js (some (kX { s with best:=fb }))
     . simp only[go_sem,ah]
       refine PC.use hF ?_;simp only[go_sem,ah];refine aM ah (by simp[pL,iW]) ?_;simp only[go_sem];refine iM hr (by simpa using bj) (am _ _ ⟨by simp only[go_sem],(aA _ _ _).trans rfl,?_⟩);exact U.set js (some (kX { s with best:=fb }))
   clear hj U R8 ax;rintro ρ H ⟨J,R,U⟩;simp only[go_sem,J,R];refine cE so4 R (by simp[pL]) ?_;simp only[go_sem];rw[eE];refine rA.flat ?_ _;exact Sup.set2 U (some (kX { s with best:=fb,found:=true }))
 rw[if_neg (fun h=>Bool.noConfusion (hb.symm.trans h))]at eW;subst eW;have b0:l.length<s.total:=by simp at hb;omega
 have bz:=a4.orders;have bo:=Bk s.x s.set l s.x.orders.length;simp only[go_sem];refine dP [js] [(0,true),(1,true),(2,true),(3,true),(4,true),(5,true),(6,true),(7,true),(8,true),(11,true),(9,false),(10,true)] (by simp[hj]) (by kernel_rfl) fun Hp Hr hp hr _ al=>?_
 have ad:=(hp js (by simp)).trans hj;simp only[go_sem,ad];refine PC.use (ahH s.x s.set l (by omega) a4.before (by omega)) ?_;have bo:(yV s.x s.set l).length<=120:=Xah bo (by omega);generalize yV s.x s.set l=vs at *;simp only[go_sem,Xaa];refine iY hr ?_;clear hp hr al ad U;have b2:st.length<=131072:=Xah bv (Xah (Xay (by decide) (show l.length+1<=17 by omega)) (by decide));refine⟨fun ρ H=>∃(k:Nat) (a:Sr),k<=vs.length/\ρ 0=.op js 0 0/\ρ 1=.sl (l.map aK)/\ρ 2=int src/\ρ 3=.sl (st.map gS)/\ρ 77=.sl (vs.map aK)/\ρ 78=int (vs.length:Nat)/\ρ 79=int k/\a=(vs.take k).foldl (AH t (rL t f) l src st) s/\SameB s a/\H js=some (kX a)/\Sup (aI H0 js (some (kX a))) H,fun ρ _=>vs.length-aX (ρ 79),⟨0,s,Xab _,by simp only[go_sem],by simp only[go_sem],by simp only[go_sem],by simp only[go_sem],by simp only[go_sem],by simp only[go_sem,Xaa],(by simp only[go_sem];rfl),rfl,SameB.refl s,a6,by rw[LZ a6];exact Sup.refl H0⟩,?_⟩;rintro ρ H ⟨k,a,hk,J,O,Y,e3,I,F,E,ha,hS,R,U⟩;simp only[go_sem,J,O,Y,e3,I,F,E];refine aB (fun au=>?_) (fun bm=>?_)
 . have au:=ltB (by simpa using au)
   obtain⟨v,hv⟩:=aQ au;have b1:=inB au;have hs:=eY (f:=AH t (rL t f) l src st) (b:=s) hv;rw[<-ha]at hs;have bf:=hS.b a4;have eX:AH t (rL t f) l src st a v=if((dD a.x v).2 != 0)=true then a
     else if(Be a.x.net t src (dD a.x v).1 st).length=0 then a
     else rL t f a (l++[v]) (dD a.x v).1.place (Be a.x.net t src (dD a.x v).1 st):=rfl
   have br:SameB a (AH t (rL t f) l src st a v):=by
     unfold AH;split
     . exact .refl a
     . split
       . exact .refl a
       . exact wD t f _ _ _ _
   generalize AH t (rL t f) l src st a v=EV at *;have bp:=EB a.x v;generalize b3:dD a.x v=sv at *;simp only[go_sem,J,O,Y,e3,I,F,E,aH hv,b1];refine aN fun af ar=>?_
   have ag:js≠af:=aO R ar;simp only[go_sem,J,O,Y,e3,I,F,E,R];refine aM (aA _ _ _) (by simp[cL]) ?_;have a0:=U.none ar;generalize aj:aI (aI _ af _) af _=HGi13;replace U:=Sup.eq ((U.upd a0 _).upd a0 _) aj;replace R:=(congrFun aj.symm js).trans ((aD _ _ _ _ ag).trans ((aD _ _ _ _ ag).trans R));have ac:HGi13 af=some ((⟨97,2,[aK v]⟩:Row)):=by rw[<-aj,aA];try rfl
   clear aj ar;simp only[go_sem,J,O,Y,e3,I,F,E,ac,R];refine Cp [js,af] (.q 0 (.q 1 (.q 2 (.q 3 (.q 4 (.q 5 (.a2 6 (.q 7 (.q 8 (.q 9 (.a1 10 (.a1 11 (.q 12 .nil)))))) 10 (.a1 6 (.q 7 (.q 8 (.q 9 (.a1 11 (.q 12 .nil))))))))))))) (fun ab H'=>ab 0=.op js 0 0/\ab 1=.sl (l.map aK)/\ab 2=int src/\ab 3=.sl (st.map gS)/\ab 77=.sl (vs.map aK)/\ab 78=int vs.length/\ab 79=int (k:Nat)/\ab 13=.op af 0 0/\ab 15=int sv.2/\∃aw,ab 14=.op aw 0 0/\H' aw=some (⟨141,4,[dZ sv.1]⟩:Row)/\H' af=some (⟨97,2,[aK v]⟩:Row)/\H' js=some (kX a)/\Sup (aI H0 js (some (kX a))) H') (by simp[R,ac]) (by kernel_rfl) (fun K' am Hp Hr hp hr _ al=>?_) ?_
   . have bu:=(hp js (by simp)).trans R
     have aq:=(hp af (by simp)).trans ac;simp only[go_sem,J,O,Y,e3,I,F,E,bu,aq];refine qO ?_ ?_
     . simp only[go_sem,J,O,Y,e3,I,F,E]
       refine PC.use bp ?_;simp only[go_sem,J,O,Y,e3,I,F,E];refine aN fun j8 bd=>?_
       simp only[go_sem,J,O,Y,e3,I,F,E];refine aM (aA _ _ _) (by simp[kA]) ?_;simp only[go_sem];refine nM hr bd fun h8=>am _ _ ⟨by simp only[go_sem,J,O,Y,e3,I,F,E],by simp only[go_sem,J,O,Y,e3,I,F,E],by simp only[go_sem,J,O,Y,e3,I,F,E],by simp only[go_sem,J,O,Y,e3,I,F,E],by simp only[go_sem,J,O,Y,e3,I,F,E],by simp only[go_sem,J,O,Y,e3,I,F,E],by simp only[go_sem,J,O,Y,e3,I,F,E],by simp only[go_sem,J,O,Y,e3,I,F,E],by simp only[go_sem],j8,by simp only[go_sem],aA _ _ _,(aD _ _ _ _ (aO ac h8)).trans ((aD _ _ _ _ (aO ac h8)).trans ac),(aD _ _ _ _ (aO R h8)).trans ((aD _ _ _ _ (aO R h8)).trans R),(U.upd (U.none h8) _).upd (U.none h8) _⟩
     . simp only[go_sem,J,O,Y,e3,I,F,E]
       refine aN fun j8 bd=>?_
       simp only[go_sem,J,O,Y,e3,I,F,E];refine PC.use bp ?_;simp only[go_sem,J,O,Y,e3,I,F,E];refine aM (aA _ _ _) (by simp[kA]) ?_;simp only[go_sem];refine nM hr bd fun h8=>am _ _ ⟨by simp only[go_sem,J,O,Y,e3,I,F,E],by simp only[go_sem,J,O,Y,e3,I,F,E],by simp only[go_sem,J,O,Y,e3,I,F,E],by simp only[go_sem,J,O,Y,e3,I,F,E],by simp only[go_sem,J,O,Y,e3,I,F,E],by simp only[go_sem,J,O,Y,e3,I,F,E],by simp only[go_sem,J,O,Y,e3,I,F,E],by simp only[go_sem,J,O,Y,e3,I,F,E],by simp only[go_sem],j8,by simp only[go_sem],aA _ _ _,(aD _ _ _ _ (aO ac h8)).trans ((aD _ _ _ _ (aO ac h8)).trans ac),(aD _ _ _ _ (aO R h8)).trans ((aD _ _ _ _ (aO R h8)).trans R),(U.upd (U.none h8) _).upd (U.none h8) _⟩
   clear ac R U J O Y e3 I F E;rintro ρ H ⟨J,O,Y,e3,I,F,E,X,aa,aw,Z,ay,ac,R,U⟩;simp only[go_sem,J,O,Y,e3,I,F,E,X,aa,Z];refine aB (fun c1=>?_) (fun c1=>?_)
   . rw[if_pos c1]at eX
     simp only[go_sem,J,O,Y,e3,I,F,E,X,aa,Z,aS (show k<=4611686018427387904 by omega)];exact⟨⟨k+1,a,au,rfl,by rw[hs,eX],hS,R,U⟩,by simp only[aG];omega⟩
   rw[if_neg (fun h=>Bool.noConfusion (c1.symm.trans h))]at eX;have bt:=Zv H js a t R bf.ty src st sv.1 bf.ev.net (by omega);have az:=A6 a.x.net t src sv.1 st st.length;rw[Xaf]at az;replace az:(Be a.x.net t src sv.1 st).length<=2*st.length:=az;generalize Be a.x.net t src sv.1 st=nx at *;simp only[go_sem,J,O,Y,e3,I,F,E,X,aa,Z,ay];refine LC.use bt ?_;simp only[go_sem,J,O,Y,e3,I,F,E,X,aa,Z,Xaa];refine aB (fun c2=>?_) (fun c2=>?_)
   case refine_2=>
     have hz:nx.length=0:=by simp at c2;simp[c2]
     rw[if_pos hz]at eX;simp only[go_sem,J,O,Y,e3,I,F,E,X,aa,Z,aS (show k<=4611686018427387904 by omega)];exact⟨⟨k+1,a,au,rfl,by rw[hs,eX],hS,R,U⟩,by simp only[aG];omega⟩
   have hz:¬nx.length=0:=by simp at c2;omega
   rw[if_neg hz]at eX;have bk:js≠af:=fun e=>by subst e;rw[R]at ac;cases ac
   have bi:js≠aw:=fun e=>by subst e;rw[R]at ay;cases ay
   simp only[go_sem,J,O,Y,e3,I,F,E,X,aa,Z];have bc:(l++[v]).length=l.length+1:=by simp
   have bb:=fun(Hx:aJ) (hx:Hx js=some (kX a))=>a7 a bf Hx hx (l++[v]) sv.1.place nx (by rw[bc,hS.total];omega) (by rw[bc,hS.total];omega) (by rw[bc,Xbs];omega)
   rw[<-eX]at bb;refine Cp [af,aw] (.q 0 (.q 1 (.q 3 (.q 6 (.q 7 (.q 8 (.a2 2 (.a1 4 (.a1 5 (.a1 9 .nil))) 4 (.a1 2 (.a1 5 (.a1 9 .nil)))))))))) (fun ab H'=>ab 0=.op js 0 0/\ab 1=.sl (l.map aK)/\ab 2=int src/\ab 3=.sl (st.map gS)/\ab 77=.sl (vs.map aK)/\ab 78=int vs.length/\ab 79=int (k:Nat)/\H' js=some (kX EV)/\Sup (aI H0 js (some (kX EV))) H') (by simp[ac,ay]) (by kernel_rfl) (fun K' am Hp Hr hp hr _ al=>?_) ?_
   . have aq:=(hp af (by simp)).trans ac
     have be:=(hp aw (by simp)).trans ay;have a9:=(hr js (by simp[bk,bi])).trans R;simp only[go_sem,J,O,Y,e3,I,F,E,X,aa,Z,aq,be];refine qO ?_ ?_
     . simp only[go_sem,J,O,Y,e3,I,F,E,X,aa,Z]
       refine PC.use (abO l (by omega)) ?_;simp only[go_sem,J,O,Y,e3,I,F,E,X,aa,Z];refine SO amO (.inl rfl) (by simp) (AY cL l) (by simp only[go_sem]) (by simp;omega) fun j5 h5=>?_
       have n5:js≠j5:=aO a9 h5;simp only[go_sem,J,O,Y,e3,I,F,E,X,aa,Z];refine bA.frz [j5] (args':=[.op js 0 0,.sl (l.map aK++[aK v]),int sv.1.place,.sl (nx.map gS)]) (.cons _ _ _ _ (.refl _) (.cons _ _ _ _ (.row _ _ _ (by simp;exact aA _ _ _) (ConvE.refl _)) (.cons _ _ _ _ (.refl _) (.cons _ _ _ _ (.refl _) .nil)))) ?_;rw[aAj,show l.map aK++[aK v]=(l++[v]).map aK by simp];refine MC.use (bb _ ((aD _ _ _ _ n5).trans ((aD _ _ _ _ n5).trans a9))) ?_;simp only[go_sem,J,O,Y,e3,I,F,E,X,aa,Z];refine D7 hr (by simp[bk,bi]) h5 U fun Hm bg bn=>am _ _ ⟨by simp only[go_sem,J,O,Y,e3,I,F,E,X,aa,Z],by simp only[go_sem,J,O,Y,e3,I,F,E,X,aa,Z],by simp only[go_sem,J,O,Y,e3,I,F,E,X,aa,Z],by simp only[go_sem,J,O,Y,e3,I,F,E,X,aa,Z],by simp only[go_sem,J,O,Y,e3,I,F,E,X,aa,Z],by simp only[go_sem,J,O,Y,e3,I,F,E,X,aa,Z],by simp only[go_sem,J,O,Y,e3,I,F,E,X,aa,Z],bg,bn⟩
     . simp only[go_sem,J,O,Y,e3,I,F,E,X,aa,Z]
       refine PC.use (abO l (by omega)) ?_;simp only[go_sem,J,O,Y,e3,I,F,E,X,aa,Z];refine SO amO (.inl rfl) (by simp) (AY cL l) (by simp only[go_sem]) (by simp;omega) fun j5 h5=>?_
       have n5:js≠j5:=aO a9 h5;simp only[go_sem,J,O,Y,e3,I,F,E,X,aa,Z];refine bA.frz [j5] (args':=[.op js 0 0,.sl (l.map aK++[aK v]),int sv.1.place,.sl (nx.map gS)]) (.cons _ _ _ _ (.refl _) (.cons _ _ _ _ (.row _ _ _ (by simp;exact aA _ _ _) (ConvE.refl _)) (.cons _ _ _ _ (.refl _) (.cons _ _ _ _ (.refl _) .nil)))) ?_;rw[aAj,show l.map aK++[aK v]=(l++[v]).map aK by simp];refine MC.use (bb _ ((aD _ _ _ _ n5).trans ((aD _ _ _ _ n5).trans a9))) ?_;simp only[go_sem,J,O,Y,e3,I,F,E,X,aa,Z];refine D7 hr (by simp[bk,bi]) h5 U fun Hm bg bn=>am _ _ ⟨by simp only[go_sem,J,O,Y,e3,I,F,E,X,aa,Z],by simp only[go_sem,J,O,Y,e3,I,F,E,X,aa,Z],by simp only[go_sem,J,O,Y,e3,I,F,E,X,aa,Z],by simp only[go_sem,J,O,Y,e3,I,F,E,X,aa,Z],by simp only[go_sem,J,O,Y,e3,I,F,E,X,aa,Z],by simp only[go_sem,J,O,Y,e3,I,F,E,X,aa,Z],by simp only[go_sem,J,O,Y,e3,I,F,E,X,aa,Z],bg,bn⟩
   clear ac ay R U J O Y e3 I F E X aa Z;rintro ρ H ⟨J,O,Y,e3,I,F,E,R,U⟩;simp only[go_sem,J,O,Y,e3,I,F,E,aS (show k<=4611686018427387904 by omega)];exact⟨⟨k+1,EV,au,rfl,hs.symm,hS.trans br,R,U⟩,by simp only[aG];omega⟩
 have bm:=geB hk (by simpa using bm);subst bm;rw[Xaf]at ha;rw[<-ha];simp only[go_sem];exact rA.flat U _
theorem Us(t:VType)(E:Nat):∀f,WQ t E f
 | 0=>Hu t E 0 (fun F e=>by omega)
 | f + 1 => Hu t E (f + 1) (fun F e => by
     obtain rfl:F=f:=by omega
     exact Us t E F)
def xQ(x:Instance)(set:Int)(l:List Visit):Prop:=∀p v q,l=p++v::q->v∈yV x set p
theorem xQ.nil{x:Instance}{set:Int}:xQ x set []:=fun p v q h=>by simp at h
theorem xQ.snoc{x:Instance}{set:Int}{l:List Visit}(h:xQ x set l){v:Visit}(F:v∈yV x set l):xQ x set (l++[v]):=fun p w q e=>by
 rcases List.eq_nil_or_concat q with rfl|⟨q',u,rfl⟩
 . obtain⟨rfl,E⟩:=List.append_inj' e rfl
   cases E;exact F
 . rw[List.concat_eq_append,show p++w::(q'++[u])=(p++w::q')++[u]by simp]at e
   obtain⟨rfl,E⟩:=List.append_inj' e rfl;exact h p w q' rfl
def yL(s:Sr):Prop:=s.found=true->∃l,s.best=O7 s l (kF s.x (nB s l)).1/\(kF s.x (nB s l)).2=0/\xQ s.x s.set l/\l.length=s.total
theorem Qf{s:Sr}(h:yL s){l:List Visit}(I:xQ s.x s.set l)(O:l.length=s.total):yL (P3 s l):=by
 unfold P3;split
 next E=>
   have E:(kF s.x (nB s l)).2=0:=by simpa using E
   intro _;show ∃l',Ba s.best s.found (O7 s l (kF s.x (nB s l)).1)=O7 s l' (kF s.x (nB s l')).1/\(kF s.x (nB s l')).2=0/\xQ s.x s.set l'/\l'.length=s.total;unfold Ba;split
   . exact⟨l,rfl,E,I,O⟩
   next F=>
     have J:s.found=true:=by
       cases e:s.found with
       | true=>rfl
       | false=>rw[e]at F;simp at F
     exact h J
 . exact h
theorem Fs{l:List Visit}{g:Sr->Visit->Sr}{E:Sr}(F:∀a v,SameB E a->yL a->v∈yV E.x E.set l->SameB E (g a v)/\yL (g a v)):∀(vs:List Visit) (a:Sr),(∀v∈vs,v∈yV E.x E.set l)->SameB E a->yL a->yL (vs.foldl g a)
 | [],a,_,_,h=>h
 | v::vs,a,hv,hs,h=>by
   obtain⟨h1,I⟩:=F a v hs h (hv v (by simp));exact Fs F vs (g a v) (fun u J=>hv u (by simp[J])) h1 I
theorem DO(t:VType):∀(f:Nat) (s:Sr) (l:List Visit) (src:Int) (st:List Sta),yL s->xQ s.x s.set l->yL (rL t f s l src st)
 | 0,s,_,_,_,h,_=>h
 | f+1,s,l,src,st,h,hl=>by
   unfold rL;split
   next J=>exact Qf h hl (by simp at J;omega)
   . refine Fs (l:=l) (fun a v E F I=>?_) _ s (fun v I=>I) (SameB.refl s) h
     unfold AH;split
     . exact⟨E,F⟩
     . split
       . exact⟨E,F⟩
       . refine⟨E.trans (wD t f _ _ _ _),DO t f _ _ _ _ F ?_⟩
         rw[E.x,E.set];exact hl.snoc I
def qR(x:Instance)(l:List Int):Nat:=(l.map fun i=>(eM x.orders i).length).sum
def F0(x:Instance)(set:Int):Nat:=qR x (iS set)
theorem QX(x:Instance){l:List Int}{k:Nat}{i:Int}(h:l[k]?=some i):qR x (l.take (k+1))=qR x (l.take k)+(eM x.orders i).length:=by
 unfold qR;rw[bX h];simp
theorem Gj(x:Instance):∀l:List Int,qR x l<=2*l.length
 | []=>Xag _
 | i::l=>by
   have h1:=Gj x l;have E:=mA x.orders i;unfold qR at h1 |-;simp only[Xbk,List.sum_cons,Xac];omega
theorem RV(x:Instance)(l:List Int)(k:Nat):qR x (l.take k)<=2*k:=by
 have h1:=Gj x (l.take k);rw[Xax]at h1;omega
theorem CO{set:Int}{n:Nat}(h:∀i:Nat,n<=i->gL set (i:Int)=false):∀d,tD set (n+d)=tD set n
 | 0=>rfl
 | d+1=>by
   rw[<-Nat.add_assoc,uZ,h (n+d) (by omega),CO h d];simp
theorem Gh{set:Int}{n:Nat}(h0:0<=set)(h1:set<2^n)(i:Nat)(hi:n<=i):gL set (i:Int)=false:=by
 obtain⟨m,rfl⟩:=Int.eq_ofNat_of_zero_le h0;by_cases E:i<=62
 . rw[uT (by omega) (by omega),Xan]
   refine Nat.testBit_lt_two_pow (Xcc (m:=2^n) ?_ (Xay (by decide) hi))
   exact_mod_cast h1
 . unfold gL
   rw[decide_eq_false (show ¬(i:Int)<=62 by omega)];simp
theorem TS{set:Int}{n:Nat}(h0:0<=set)(h1:set<2^n)(E:n<=63):(iS set).length<=n:=by
 have h:=CO (Gh h0 h1) (63-n);unfold iS;rw[show 63=n+(63-n)by omega,h];exact Cj set n
theorem VF{x:Instance}{set:Int}{n:Nat}(h0:0<=set)(h1:set<2^n)(E:n<=63):F0 x set<=2*n:=by
 have I:=TS h0 h1 E;have F:=Gj x (iS set);unfold F0;omega
def Yo(x:Instance)(kind set:Int)(c:Column):Prop:=∃(k:Nat) (l:List Visit),kind=(k:Int)/\k<x.types.length/\0<set/\set<2^x.orders.length/\c.price=(kF x ⟨(k:Nat),0,[],l⟩).1/\(kF x ⟨(k:Nat),0,[],l⟩).2=0/\xQ x set l/\l.length=F0 x set
theorem Y4{α:Type}{o:Option α}{f:α->Prop}{a:α}(h:o=some a)(E:f a):bJ o f:=by subst h;exact E
abbrev mL(t:VType):Row:=⟨87,14,[aY t]⟩
theorem amK(x:Instance)(kind set:Int)(hE:EvalB x)(hn:x.orders.length<=8):WC prog 27 [.agg (aL x),int kind,int set] (fun r=>∃(c:Column) (e:Int),r=.tup [.agg (eT c),int e]/\(e=0->Yo x kind set c)):=by
 refine WC.body (c:=Tryz.f27.body.getD .skip) (fun t=>t == 43||t == 75) mixed Tryz.func27 rfl (by kernel_rfl) ?_;unfold Tryz.f27;simp only[gdS];simp only[go_sem];refine aN fun j6 av=>?_
 generalize ar:aI _ j6 _=HG6;have Z:HG6 j6=some (oK iJ):=by rw[<-ar,aA];try rfl
 clear ar av;simp only[go_sem,Z,Xaa];refine⟨fun _=>by omega,aB (fun hb=>?_) (fun hb=>?_)⟩
 . simp only[go_sem,Z]
   refine aM Z (by simp only[go_sem]) ?_;generalize hP:aI _ j6 _=HP;replace Z:HP j6=some (oK iJ):=by rw[<-hP,aA];rfl
   clear hP;simp only[go_sem,Z];exact⟨_,⟨iJ,2,rfl,fun h=>absurd h (by decide)⟩,.refl _⟩
 obtain⟨⟨⟨hk0,hk1⟩,hs0⟩,hs1⟩:((0<=kind/\kind<x.types.length)/\0<set)/\shV .shr .i64 set (x.orders.length:Nat)=0:=by
   simpa using hb
 rw[A1 (by omega)]at hs1;obtain⟨k0,rfl⟩:=Int.eq_ofNat_of_zero_le hk0;have hk:k0<x.types.length:=by omega
 obtain⟨t,ht⟩:=aQ hk;have bk:=inB hk;have ag:set<2^x.orders.length:=by
   have hp:(0:Int)<2^x.orders.length:=Int.pow_pos (by decide);rcases Int.lt_or_le set (2^x.orders.length)with h|h
   . exact h
   . have:=Int.le_ediv_of_mul_le hp (show 1*2^x.orders.length<=set by omega)
     omega
 have hM:=VF (x:=x) (by omega) ag (by omega);have ax:=TS (by omega) ag (by omega);have hT:qR x (iS set)=F0 x set:=rfl;simp only[go_sem,Z,Xaa];refine WC.use (Vn x set (by omega) hE.apart hE.before) fun r ⟨e,he⟩=>?_
 subst he;simp only[go_sem,Z];refine aB (fun aw=>?_) (fun aw=>?_)
 . simp only[go_sem,Z]
   refine aM Z (by simp only[go_sem]) ?_;generalize hP:aI _ j6 _=HP;replace Z:HP j6=some (oK iJ):=by rw[<-hP,aA];rfl
   clear hP;simp only[go_sem,Z];exact⟨_,⟨iJ,24,rfl,fun h=>absurd h (by decide)⟩,.refl _⟩
 clear hb aw;simp only[go_sem,Z];refine Y4 (a:=uA ⟨x,k0,set,0,iJ,false⟩) rfl ⟨by rw[pL];decide,?_⟩;refine aN fun js ao=>?_
 have am:j6≠js:=aO Z ao;simp only[go_sem,Z];generalize ap:aI _ js _=HGs;replace Z:=(congrFun ap.symm j6).trans ((aD _ _ _ _ am).trans Z);have R:HGs js=some (kX ⟨x,k0,set,0,iJ,false⟩):=by rw[<-ap,aA]
 clear ap ao;refine PC.use (Df set) ?_;simp only[go_sem,Z,R,Xaa];have ai:=Cj set 63
 change (iS set).length<=63 at ai
 generalize iS set=M at *;clear ax;have a5:M.length<=63:=ai;refine⟨fun ρ H=>∃(k:Nat),k<=M.length/\ρ 1=int (k0:Nat)/\ρ 3=.rp (aL x) 0/\ρ 6=.op j6 0 0/\ρ 8=.op js 0 0/\ρ 45=.sl (M.map aR)/\ρ 46=int (M.length:Nat)/\ρ 47=int k/\H j6=some (oK iJ)/\H js=some (kX ⟨x,k0,set,qR x (M.take k),iJ,false⟩),fun ρ _=>M.length-aX (ρ 47),⟨0,Xab _,by simp only[go_sem],by simp only[go_sem],by simp only[go_sem],by simp only[go_sem],by simp only[go_sem],by simp only[go_sem,Xaa],(by simp only[go_sem];rfl),Z,R⟩,?_⟩;clear Z R;rintro ρ H ⟨k,a0,J,Y,X,O,E,I,F,Z,R⟩;simp only[go_sem,J,Y,X,O,E,I,F];refine aB (fun ah=>?_) (fun aq=>?_)
 . have ah:=ltB (by simpa using ah)
   obtain⟨i,hi⟩:=aQ ah;have b1:=inB ah;have hs:=QX x hi;have hb:=RV x M k;have hV:=mA x.orders i;generalize qR x (M.take k)=T at *;simp only[go_sem,J,Y,X,O,E,I,F,aH hi,b1];refine Cp [] (.q 0 (.q 1 (.q 2 (.q 4 (.q 5 (.q 6 (.a2 3 (.a1 7 (.q 8 (.q 9 (.q 10 (.q 11 (.a1 12 .nil)))))) 7 (.q 8 (.a1 3 (.q 9 (.q 10 (.q 11 (.a1 12 .nil)))))))))))))
     (fun ac H'=>ac 1=int (k0:Nat)/\ac 3=.rp (aL x) 0/\ac 6=.op j6 0 0/\ac 8=.op js 0 0/\ac 45=.sl (M.map aR)/\ac 46=int (M.length:Nat)/\ac 47=int (k:Nat)/\H' j6=some (oK iJ)/\H' js=some (kX ⟨x,k0,set,qR x (M.take (k+1)),iJ,false⟩)) (by simp) (by kernel_rfl) (fun K' au Hp Hr hp hr _ aj=>?_) ?_
   . have aa:=(hr js (by simp)).trans R
     simp only[go_sem,J,Y,X,O,E,I,F];refine qO ?_ ?_
     . simp only[go_sem,J,Y,X,O,E,I,F,aa]
       refine PC.use (nU x.orders i) ?_;simp only[go_sem,J,Y,X,O,E,I,F,aa,Xaa];refine cE so3 aa (by simp[pL]) ?_;simp only[go_sem];refine iM hr (by simp) (au _ _ ⟨by simp only[go_sem,J,Y,X,O,E,I,F],by simp only[go_sem,J,Y,X,O,E,I,F],by simp only[go_sem,J,Y,X,O,E,I,F],by simp only[go_sem,J,Y,X,O,E,I,F],by simp only[go_sem,J,Y,X,O,E,I,F],by simp only[go_sem,J,Y,X,O,E,I,F],by simp only[go_sem,J,Y,X,O,E,I,F],?_,?_⟩)
       . rw[aD _ _ _ _ am];exact Z
       rw[hs,aA];refine congrArg (fun l=>some (⟨121,17,[l]⟩:Row)) ?_;rw[aW (by omega)];rfl
     . simp only[go_sem,J,Y,X,O,E,I,F,aa]
       refine PC.use (nU x.orders i) ?_;simp only[go_sem,J,Y,X,O,E,I,F,aa,Xaa];refine cE so3 aa (by simp[pL]) ?_;simp only[go_sem];refine iM hr (by simp) (au _ _ ⟨by simp only[go_sem,J,Y,X,O,E,I,F],by simp only[go_sem,J,Y,X,O,E,I,F],by simp only[go_sem,J,Y,X,O,E,I,F],by simp only[go_sem,J,Y,X,O,E,I,F],by simp only[go_sem,J,Y,X,O,E,I,F],by simp only[go_sem,J,Y,X,O,E,I,F],by simp only[go_sem,J,Y,X,O,E,I,F],?_,?_⟩)
       . rw[aD _ _ _ _ am];exact Z
       rw[hs,aA];refine congrArg (fun l=>some (⟨121,17,[l]⟩:Row)) ?_;rw[aW (by omega)];rfl
   clear Z R J Y X O E I F;rintro ρ H ⟨J,Y,X,O,E,I,F,Z,R⟩;simp only[go_sem,J,Y,X,O,E,I,F,aS (show k<=4611686018427387904 by omega)];exact⟨⟨k+1,ah,rfl,Z,R⟩,by simp only[aG];omega⟩
 have aq:=geB a0 (by simpa using aq);subst aq;rw[Xaf]at R;simp only[go_sem,J,Y,X,O,E,I,F,aH ht,bk];refine aN fun ae ad=>?_
 have af:js≠ae:=aO R ad;have an:j6≠ae:=aO Z ad;simp only[go_sem,J,Y,X,O,E,I,F];refine aM (aA _ _ _) (by simp[oU]) ?_;generalize al:aI (aI _ ae _) ae _=HGi;replace Z:=(congrFun al.symm j6).trans ((aD _ _ _ _ an).trans ((aD _ _ _ _ an).trans Z));replace R:=(congrFun al.symm js).trans ((aD _ _ _ _ af).trans ((aD _ _ _ _ af).trans R));have ak:HGi ae=some (mL t):=by rw[<-al,aA];try rfl
 clear al ad;simp only[go_sem,J,Y,X,O,E,I,F,ak];refine dP [ae] [(0,true),(1,true),(2,true),(3,true),(4,true),(5,true),(6,false),(7,false)] (by simp[ak]) (by kernel_rfl) fun Hp Hr hp hr _ aj=>?_
 have ay:=(hp ae (by simp)).trans ak;have aa:=(hr js (by simpa using af)).trans R;simp only[go_sem,J,Y,X,O,E,I,F,ay];refine LC.use (abU Hr js _ t t.start 0 ht aa) ?_;simp only[go_sem,J,Y,X,O,E,I,F];refine MC.use (Us t js 17 ⟨x,k0,set,qR x M,iJ,false⟩ ⟨ht,hE,hE.before,by show x.orders.length<=60;omega,by show qR x M<=16;omega⟩ Hr aa [] t.src (tC t [] t.start 0) (Xab _) (by show qR x M-0<17;omega) (F7 t [] t.start 0)) ?_;have hB:=wD t 17 ⟨x,k0,set,qR x M,iJ,false⟩ [] t.src (tC t [] t.start 0);have a4:=DO t 17 ⟨x,k0,set,qR x M,iJ,false⟩ [] t.src (tC t [] t.start 0) (fun h=>Bool.noConfusion h) xQ.nil;generalize rL t 17 ⟨x,k0,set,qR x M,iJ,false⟩ [] t.src (tC t [] t.start 0)=s' at *;simp only[go_sem,J,Y,X,O,E,I,F];refine iM hr (by simpa using af) ?_;have R2:aI HGi js (some (kX s')) js=some (kX s'):=aA _ _ _;have ab:aI HGi js (some (kX s')) j6=some (oK iJ):=(aD _ _ _ _ am).trans Z;generalize aI HGi js (some (kX s'))=HX at *;clear Z R ak;simp only[go_sem,J,Y,X,O,E,I,F,R2];refine aB (fun hb=>?_) (fun hb=>?_)
 . simp only[go_sem,J,Y,X,O,E,I,F,ab]
   refine aM ab (by simp only[go_sem]) ?_;generalize hP:aI _ j6 _=HP;replace ab:HP j6=some (oK iJ):=by rw[<-hP,aA];rfl
   clear hP;simp only[go_sem,J,Y,X,O,E,I,F,ab];exact⟨_,⟨iJ,24,rfl,fun h=>absurd h (by decide)⟩,.refl _⟩
 simp only[go_sem,J,Y,X,O,E,I,F,R2,ab];refine aM ab (by simp[iW]) ?_;generalize hP:aI _ j6 _=HP;replace ab:HP j6=some (oK s'.best):=by rw[<-hP,aA];rfl
 clear hP;simp only[go_sem,J,Y,X,O,E,I,F,ab];refine⟨_,⟨s'.best,0,rfl,fun _=>?_⟩,.refl _⟩;have az:s'.found=true:=by simpa using hb
 obtain⟨l,z1,z2,z3,z4⟩:=a4 az;have aj:nB s' l=⟨(k0:Nat),0,[],l⟩:=by unfold nB;rw[hB.kind]
 rw[aj,hB.x]at z2;rw[hB.x,hB.set]at z3;rw[hB.total]at z4;refine⟨k0,l,rfl,hk,by omega,ag,?_,z2,z3,z4.trans hT⟩;rw[z1,aj,hB.x];rfl
end Go.Proofs.YtdlijlecpopadaaGreatDoor.Sq
end
section
namespace Go.Proofs.YtdlijlecpopadaaGreatDoor.Rx
open Go.Aw Go.Aw.D Go.Proofs Ty
open Sq
open Go.Nu
def Dis:List Visit->Prop
 | []=>True
 | v::l=>¬v∈l/\Dis l
theorem YL:∀(l U:List Visit),Dis l->(∀v∈l,v∈U)->l.length<=U.length
 | [],U,_,_=>Xab _
 | v::l,U,hd,hs=>by
   obtain⟨a,b,rfl⟩:=List.append_of_mem (hs v (by simp));have:=YL l (a++b) hd.2 fun u E=>by
     have:=hs u (by simp[E]);rcases Xaq.1 this with h|h
     . exact Xca _ h
     . rcases Xbi.1 h with rfl|h
       . exact absurd E hd.1
       . exact Xdd _ h
   simp only[Xae,Xac]at this |-;omega
def pB(f:Visit->Rat):List Visit->Rat
 | []=>0
 | v::l=>f v+pB f l
theorem Ad(f:Visit->Rat)(v:Visit)(l:List Visit):pB f (v::l)=f v+pB f l:=rfl
theorem yQ(f:Visit->Rat):∀a b:List Visit,pB f (a++b)=pB f a+pB f b
 | [],b=>(Rat.zero_add _).symm
 | v::a,b=>by
   rw[List.cons_append,Ad,Ad,yQ f a b,Rat.add_assoc]
theorem Uz(f:Visit->Rat):∀(l U:List Visit),Dis l->(∀v∈l,v∈U)->l.length=U.length->pB f l=pB f U/\∀v∈U,v∈l
 | [],U,_,_,h=>by
   have:U=[]:=List.length_eq_zero_iff.1 h.symm;subst this;exact⟨rfl,fun v J=>J⟩
 | v::l,U,hd,hs,h=>by
   obtain⟨a,b,rfl⟩:=List.append_of_mem (hs v (by simp));have F:∀u∈l,u∈a++b:=fun u E=>by
     have:=hs u (by simp[E]);rcases Xaq.1 this with h|h
     . exact Xca _ h
     . rcases Xbi.1 h with rfl|h
       . exact absurd E hd.1
       . exact Xdd _ h
   obtain⟨h1,I⟩:=Uz f l (a++b) hd.2 F (by simp only[Xae,Xac]at h |-;omega);rw[yQ]at h1;refine⟨?_,fun u E=>?_⟩
   . rw[yQ,Ad,Ad,h1]
     generalize pB f a=x;generalize pB f b=y;generalize f v=z
     grind
   . rcases Xaq.1 E with E|E
     . exact List.mem_cons_of_mem _ (I u (Xca _ E))
     . rcases Xbi.1 E with rfl|E
       . exact List.mem_cons_self
       . exact List.mem_cons_of_mem _ (I u (Xdd _ E))
theorem XQ{l:List Visit}(h:∀j v,l[j]?=some v->¬v∈l.take j):Dis l:=by
 suffices ∀(b a:List Visit),(∀j v,(a++b)[j]?=some v->¬v∈(a++b).take j)->Dis b from this l [] (by simpa using h)
 intro b;induction b with
 | nil=>intro a _;trivial
 | cons v b ih=>
   intro a h;refine⟨fun E=>?_,ih (a++[v]) (by simpa using h)⟩;obtain⟨c,d,rfl⟩:=List.append_of_mem E;have:=h (a.length+1+c.length) v (by
     rw[show a++v::(c++v::d)=(a++v::c)++v::d by simp,List.getElem?_append_right (by simp;omega)];simp only[Xae,Xac];rw[show a.length+1+c.length-(a.length+(c.length+1))=0 by omega];rfl)
   refine this ?_;rw[show a++v::(c++v::d)=(a++v::c)++v::d by simp,List.take_append_of_le_length (by simp;omega),Xaw (by simp;omega)];simp
theorem yY{v u:Visit}:AE v u=true↔u=v:=by
 unfold AE;obtain⟨a,b⟩:=v;obtain⟨c,d⟩:=u;simp
theorem aeO{l:List Visit}{v:Visit}(h:¬v∈l):dT l v= -1:=by
 unfold dT;refine jQ (fun y E=>?_) 0;rw[Xbv];intro F;rw[yY.1 F]at E;exact h E
theorem Fh{l:List Visit}{v:Visit}{j:Nat}(h:l[j]?=some v)(F:¬v∈l.take j):dT l v=j:=by
 unfold dT;rw[lE (k:=j) (fun y E=>?_) h (yY.2 rfl) 0]
 . omega
 . rw[Xbv]
   intro I;rw[yY.1 I]at E;exact F E
theorem BB{v:Visit}:∀{l:List Visit},v∈l->∃j,l[j]?=some v/\¬v∈l.take j
 | u::l,h=>by
   by_cases e:v=u
   . subst e
     exact⟨0,rfl,by simp⟩
   . have h : v ∈ l := by
       rcases Xbi.1 h with h|h
       . exact absurd h e
       . exact h
     obtain⟨j,h1,F⟩:=BB h;refine⟨j+1,h1,fun E=>?_⟩;rw[List.take_succ_cons]at E;rcases Xbi.1 E with E|E
     . exact e E
     . exact F E
theorem Kv{l:List Visit}{v:Visit}(h:dT l v>=0):v∈l:=by
 false_or_by_contra
 rename_i E
 rw[aeO E]at h;omega
structure SeqB(x:Instance)(l:List Visit):Prop where
 ne:l≠[]
 vis:∀v∈l,Vis x v
 twice:∀j v,l[j]?=some v->¬v∈l.take j
 pair:∀i,i<x.orders.length->gO (aF x i)=true->∀d,(⟨(i:Nat),d⟩:Visit)∈l->(⟨(i:Nat),false⟩:Visit)∈l/\(⟨(i:Nat),true⟩:Visit)∈l/\dT l ⟨(i:Nat),false⟩<dT l ⟨(i:Nat),true⟩
theorem Pj{O:Order}{i:Nat}(h:gO O=true):iU O (i:Nat)=[⟨(i:Nat),false⟩,⟨(i:Nat),true⟩]:=by
 unfold gO at h;rw[Xam]at h;unfold iU;rw[if_pos h.1,if_pos h.2];rfl
theorem VK{x:Instance}{l:List Visit}(h:sI x l=0):SeqB x l:=by
 unfold sI at h;split at h
 . cases h
 next Z=>
 split at h
 . cases h
 next c2=>
 split at h
 . cases h
 next c3=>
 split at h
 . cases h
 next J=>
 clear h;simp only[Xbc,not_or,Xas,Xau,not_exists,not_and,Xch]at Z c2 c3;have J:l.all (yZ x.orders l)=true:=by simpa using J
 rw[Xao]at J;have aa:∀j v,l[j]?=some v->¬v∈l.take j:=fun j v hj O=>by
   have X:=(List.getElem?_eq_some_iff.1 hj).1;have:=c3 j (Xap.2 X);unfold tN at this;rw[decide_eq_false_iff_not]at this;refine this ?_;rw[List.getD,hj];obtain⟨i,h1,h2⟩:=BB O;show dT (l.take j) v>=0;rw[Fh h1 h2];omega
 have I:∀v∈l,∃i:Nat,v.order=(i:Nat)/\i<x.orders.length:=fun v E=>by
   have:=Z.2 v E;simp only[dF,Xai,decide_eq_false_iff_not]at this;exact⟨v.order.toNat,by omega,by omega⟩
 refine⟨fun e=>Z.1 (by rw[e];rfl),fun v E=>?_,aa,fun i hi hb d E=>?_⟩
 . obtain⟨i,e,hi⟩:=I v E
   have F:=J v E;unfold yZ at F;rw[Xam]at F;have O:v∈eM x.orders v.order:=by
     have:=F.1;unfold inV at this;exact Kv (of_decide_eq_true this)
   rw[e,BC hi]at O;obtain⟨d,e2,Y⟩:=Ua O;refine⟨i,d,e2,hi,Y,?_⟩;have:=c2 v E;unfold IG at this;rw[e,Xan,eU hi]at this;simpa using this
 . have F:=J _ E
   unfold yZ at F;rw[Xam]at F;have hq:=F.2;rw[BC hi,Pj hb]at hq;simp only[yJ,Xam,decide_eq_true_eq,Bool.and_true]at hq;obtain⟨q1,q2⟩:=hq;exact⟨Kv (by omega),Kv (by omega),q2⟩
section
variable{x:Instance}{l:List Visit}{i j:Nat}{d:Bool}
theorem SeqB.start(h:SeqB x l)(hj:l[j]?=some ⟨(i:Nat),d⟩)(Z:bQ (aF x i) d=true):∀O,¬(⟨(i:Nat),O⟩:Visit)∈l.take j:=by
 intro O hm;have J:=h.twice j _ hj;have F:(⟨(i:Nat),O⟩:Visit)∈l:=List.mem_of_mem_take hm;have Y:(⟨(i:Nat),d⟩:Visit)∈l:=Xad hj;obtain⟨I,X,e1,hi,p1,_⟩:=h.vis _ Y;obtain⟨i2,E,e2,_,p2,_⟩:=h.vis _ F;obtain⟨a1,rfl⟩:I=i/\X=d:=by injection e1 with a b;exact⟨by omega,b.symm⟩
 obtain⟨a2,rfl⟩:i2=i/\E=O:=by injection e2 with a b;exact⟨by omega,b.symm⟩
 subst a1;rw[a2]at p2;have ac:E≠X:=fun e=>J (by rw[<-e];exact hm)
 have hb:gO (aF x I)=true:=by
   unfold gO;cases X <;> cases E <;> simp_all [stR]
 unfold bQ at Z;rw[hb]at Z;have hd:X=false:=by simpa using Z
 subst hd;have ab:E=true:=by cases E <;> simp_all
 subst ab;obtain⟨_,_,h3⟩:=h.pair I hi hb true F;rw[Fh hj J]at h3;obtain⟨m,h1,h2⟩:=BB hm;have aa:=(List.getElem?_eq_some_iff.1 h1).1;rw[Xax]at aa;have g1:l[m]?=some ⟨(I:Nat),true⟩:=by rw[List.getElem?_take]at h1;split at h1 <;> first|exact h1|cases h1
 have g2:¬(⟨(I:Nat),true⟩:Visit)∈l.take m:=by
   rw[List.take_take,Xci (by omega)]at h2;exact h2
 rw[Fh g1 g2]at h3;omega
theorem SeqB.second(h:SeqB x l)(I:l[j]?=some ⟨(i:Nat),d⟩)(F:bQ (aF x i) d=false):d=true/\gO (aF x i)=true/\(⟨(i:Nat),false⟩:Visit)∈l.take j:=by
 unfold bQ at F;simp only[Xai,Xcb]at F;obtain⟨rfl,Y⟩:=F;refine⟨rfl,Y,?_⟩;have E:(⟨(i:Nat),true⟩:Visit)∈l:=Xad I;obtain⟨O,d1,e1,hi,p1,_⟩:=h.vis _ E;obtain rfl:O=i:=by injection e1 with a b;omega
 obtain⟨h1,_,X⟩:=h.pair O hi Y true E;rw[Fh I (h.twice j _ I)]at X;obtain⟨m,J,Z⟩:=BB h1;rw[Fh J Z]at X;refine Xad (i:=m) ?_;rw[List.getElem?_take,if_pos (by omega)];exact J
end
end Go.Proofs.YtdlijlecpopadaaGreatDoor.Rx
end
section
namespace Go.Proofs.YtdlijlecpopadaaGreatDoor.Rx
open Go.Aw Go.Aw.D Go.Proofs Ty
open Sq
open Go.Nu
theorem EN{s:Int}(F:s=1\/s= -1):∀{a b:List Int},(∀n∈b,0<=n/\n<=1000)->(∀n∈a,-1000000<=n/\n<=1000000)->a.length=b.length->∀c,(cR a b s).getD c 0=a.getD c 0+s*b.getD c 0
 | [],[],_,_,_=>fun c=>by show(0:Int)=0+s*0;omega
 | [],_::_,_,_,h=>by simp at h
 | _::_,[],_,_,h=>by simp at h
 | u::a,v::b,hb,ha,h=>fun c=>by
   have h1:=hb v (by simp);have I:=ha u (by simp);cases c with
   | zero=>
     show W (u+W (s*v))=u+s*v;rcases F with rfl|rfl
     . rw[Int.one_mul,bP (n:=v) (by omega),bP (by omega)]
     . rw[show(-1:Int)*v= -v by omega,bP (n:= -v) (by omega),bP (by omega)]
   | succ c=>exact EN F (fun m E=>hb m (by simp[E])) (fun m E=>ha m (by simp[E])) (by simpa using h) c
theorem EF{a b:List Int}{s:Int}(h:a.length=b.length):(cR a b s).length=a.length:=by unfold cR;rw[List.length_zipWith];omega
def Au(f:Int->Int):List Int->Int
 | []=>0
 | i::M=>f i+Au f M
theorem JZ{f g:Int->Int}(h:∀i,f i<=g i):∀M,Au f M<=Au g M
 | []=>Xaj _
 | i::M=>by
   have h1:=JZ h M;have E:=h i;unfold Au;omega
theorem Ir{f g:Int->Int}{a c:Int}(h:∀i,f i<=g i)(F:f a+c<=g a):∀M,a∈M->Au f M+c<=Au g M
 | [],E=>by cases E
 | i::M,E=>by
   unfold Au;rcases Xbi.1 E with rfl|E
   . have:=JZ h M;omega
   . have h1:=Ir h F M E
     have I:=h i;omega
theorem TD{f:Int->Int}(h:∀i,0<=f i):∀M,0<=Au f M
 | []=>Xaj _
 | i::M=>by
   have h1:=TD h M;have E:=h i;unfold Au;omega
def Ij(x:Instance)(i:Nat):Bool:=decide ((aF x i).pick.place<0)
def IR(l:List Visit)(j:Nat)(i:Int):Bool:=(l.take j).any fun u=>AE ⟨i,true⟩ u
theorem E2{l:List Visit}{j:Nat}{i:Int}:IR l j i=true↔(⟨i,true⟩:Visit)∈l.take j:=by
 unfold IR;rw[Xau];constructor
 . rintro⟨u,h1,E⟩
   rw[yY.1 E]at h1;exact h1
 . intro h
   exact⟨_,h,yY.2 rfl⟩
def xN(x:Instance)(c:Nat)(i:Int):Int:=if Ij x i.toNat=true then(aF x i.toNat).load.getD c 0 else 0
def sS(x:Instance)(l:List Visit)(j c:Nat)(i:Int):Int:=if IR l j i=true then 0 else xN x c i
def Vo(x:Instance)(l:List Visit)(j c:Nat):Int:=Au (sS x l j c) (Sq.iS (gM l).1)
section
variable{x:Instance}{k:Nat}{near:List Int}{l:List Visit}{j c i:Nat}{d:Bool}
theorem yG(h:Acc x)(hi:i<x.orders.length):∀n∈(aF x i).load,0<=n/\n<=1000:=(sH (h.order _ (kT hi)).load).2
theorem NU{a:List Int}(h:∀n∈a,0<=n/\n<=1000)(c:Nat):0<=a.getD c 0/\a.getD c 0<=1000:=by
 rw[List.getD];cases e:a[c]? with
 | none=>exact⟨Xaj 0,by show(0:Int)<=1000;decide⟩
 | some n=>exact h n (Xad e)
theorem V1{i:Nat}(h:¬i<x.orders.length):(aF x i).load=[]:=by
 unfold aF;rw[List.getD,List.getElem?_eq_none (by omega)];rfl
theorem IF(h:Acc x)(i:Int):0<=xN x c i/\xN x c i<=1000:=by
 unfold xN;split
 . by_cases hi:i.toNat<x.orders.length
   . exact NU (yG h hi) c
   . rw[V1 hi];exact⟨Xaj 0,by show(0:Int)<=1000;decide⟩
 . omega
theorem U2(h:Acc x)(i:Int):0<=sS x l j c i:=by
 unfold sS;split
 . exact Xaj _
 . exact(IF h i).1
theorem Gw(h:Acc x)(i:Int):sS x l (j+1) c i<=sS x l j c i:=by
 unfold sS;have:=IF (c:=c) h i;by_cases h1:IR l j i=true
 . have E : IR l (j + 1) i = true := by
     rw[E2]at *;exact List.mem_of_mem_take (i:=j) (by rw[List.take_take,Xci (by omega)];exact h1)
   rw[if_pos h1,if_pos E];exact Xaj _
 . rw[if_neg h1]
   split <;> omega
theorem CV(h:Acc x):∀(M:List Int) (s:List Int) (B:Int),(∀i∈M,0<=i/\i<(x.orders.length:Int))->s.length=rT x->(∀n∈s,0<=n/\n<=B)->0<=B->B+1000*M.length<=100000 ->
   (∀c,(M.foldl (nR x) s).getD c 0=s.getD c 0+Au (xN x c) M)/\(∀n∈M.foldl (nR x) s,0<=n/\n<=B+1000*M.length)
 | [],s,B,_,_,hs,_,_=>⟨fun c=>(Xcv _).symm,fun n E=>by have:=hs n E;simpa using this⟩
 | i::M,s,B,hM,hl,hs,h0,hB=>by
   have hi:=hM i (by simp);have F:i.toNat<x.orders.length:=by omega
   have I:=yG h F;have aa:=sK h F;simp only[Xac]at hB;have e:nR x s i=if Ij x i.toNat=true then cR s (aF x i.toNat).load 1 else s:=by
     unfold nR Ij;rw[eU F];show(if _ then pC s (aF x i.toNat).load else s)=_;rw[EZ I]
   by_cases J:Ij x i.toNat=true
   . rw[if_pos J]at e
     have Z:=EN (s:=1) (.inl rfl) (a:=s) I (fun n E=>by have:=hs n E;omega) (by omega);have O:∀n∈cR s (aF x i.toNat).load 1,0<=n/\n<=B+1000:=fun n E=>by
       obtain⟨m,hm,rfl⟩:=List.getElem_of_mem E;have h1:=Z m;rw[List.getD,List.getElem?_eq_getElem hm,Xcm]at h1;rw[h1];have h2:=NU I m;have h3:0<=s.getD m 0/\s.getD m 0<=B:=by
         rw[List.getD];cases e:s[m]? with
         | none=>exact⟨Xaj 0,h0⟩
         | some n=>exact hs n (Xad e)
       omega
     obtain⟨r1,Y⟩:=CV h M (cR s (aF x i.toNat).load 1) (B+1000) (fun a X=>hM a (by simp[X])) (by rw[EF (by omega)];exact hl) O (by omega) (by omega);rw[Xbg,e];refine⟨fun c=>?_,fun n E=>?_⟩
     . rw[r1 c,Z c]
       show _=_+(xN x c i+Au (xN x c) M);unfold xN;rw[if_pos J];omega
     . have:=Y n E
       simp only[Xac];omega
   . rw[if_neg J]at e
     obtain⟨r1,Y⟩:=CV h M s B (fun a X=>hM a (by simp[X])) hl hs h0 (by omega);rw[Xbg,e];refine⟨fun c=>?_,fun n E=>?_⟩
     . rw[r1 c]
       show _=_+(xN x c i+Au (xN x c) M);rw[show xN x c i=0 from if_neg J];omega
     . have:=Y n E
       simp only[Xac];omega
theorem C1(h:Acc x):(mW x).toNat=rT x/\LoadB x:=by
 have F:=h.types;have h0:=Ai h (k:=0) (by omega);have e:mW x=((aC x 0).cap.length:Nat):=by
   unfold mW aC;rw[List.getD,List.getElem?_eq_getElem (show 0<x.types.length by omega)];rfl
 have I:=Tw h;refine⟨by rw[e];omega,⟨by rw[e];omega,fun o E=>?_,by have:=h.orders;omega⟩⟩;obtain⟨i,hi,rfl⟩:=List.getElem_of_mem E;have:=sK h hi;rw[show aF x i=x.orders[i]by unfold aF;rw[List.getD,List.getElem?_eq_getElem hi];rfl]at this;rw[this,e];omega
theorem VO(h:Acc x):EvalB x:=⟨If h,(C1 h).2,by have:=h.apart;omega,by have:=h.before;omega⟩
theorem JE(h:Acc x)(E:x.orders.length<=8)(X:SeqB x l):(pW x l 0).length=rT x/\(∀c,(pW x l 0).getD c 0=Vo x l 0 c)/\∀n∈pW x l 0,0<=n/\n<=63000:=by
 obtain⟨J,I⟩:=C1 h;have F:∀v∈l,0<=v.order/\v.order<(x.orders.length:Int):=fun v Y=>by
   obtain⟨i,d,rfl,hi,_⟩:=X.vis v Y;show 0<=(i:Int)/\(i:Int)<_;omega
 obtain⟨o1,Z⟩:=Dd I F;have aa:=Po (gM l).1;have O:=CV h (Sq.iS (gM l).1) (List.replicate (rT x) 0) 0 Z (by simp) (fun n E=>by rw[List.eq_of_mem_replicate E];omega) (Xaj _) (by omega);have e:pW x l 0=(Sq.iS (gM l).1).foldl (nR x) (List.replicate (rT x) 0):=by
   unfold pW;rw[List.take_zero,List.foldl_nil];unfold Sq.fO;rw[J]
 refine⟨by rw[FX I,J],fun c=>?_,fun n E=>?_⟩
 . rw[e,O.1 c]
   have:(List.replicate (rT x) (0:Int)).getD c 0=0:=by
     rw[List.getD,List.getElem?_replicate];split <;> rfl
   rw[this,Int.zero_add];unfold Vo;refine congrArg (fun f=>Au f (Sq.iS (gM l).1)) (funext fun i=>?_);unfold sS IR;rw[if_neg (by simp)]
 . rw[e]at E
   have:=O.2 n E;omega
theorem agY(h:Acc x)(I:SeqB x l){d:Bool}(F:(⟨(i:Nat),d⟩:Visit)∈l):((i:Nat):Int)∈Sq.iS (gM l).1:=by
 obtain⟨X,J⟩:=C1 h;have E:∀v∈l,0<=v.order/\v.order<(x.orders.length:Int):=fun v F=>by
   obtain⟨i,d,rfl,hi,_⟩:=I.vis v F;show 0<=(i:Int)/\(i:Int)<_;omega
 obtain⟨O,_⟩:=Dd J E;have hi:=E _ F;have Y:=h.orders;have hi:((i:Nat):Int)<x.orders.length:=hi.2;rw[O];unfold Sq.iS Sq.tD;refine List.mem_map.2 ⟨i,List.mem_filter.2 ⟨Xap.2 (by omega),?_⟩,rfl⟩;show gL _ _=true;rw[uT (by omega) (by omega),Xan,OL];exact Xau.2 ⟨_,F,by show((i:Nat):Int).toNat == i;rw[Xan];exact Xbt i⟩
theorem Ob(h:Acc x)(F:l[j]?=some ⟨(i:Nat),d⟩)(hi:i<x.orders.length):pW x l (j+1)=cR (pW x l j) (aF x i).load (if d=true then -1 else 1):=by
 have E:=yG h hi;rw[JJ F];unfold PE;show(match x.orders[(((i:Nat):Int)).toNat]? with|some o_1=>_|none=>_)=_;rw[Xan,eU hi];show(if d=true then rS _ _ else pC _ _)=_;cases d with
 | true=>rw[if_pos rfl,if_pos rfl];exact LM E
 | false=>rw[if_neg (by simp),if_neg (by simp)];exact EZ E
theorem LG(h:Acc x)(E:x.orders.length<=8)(F:SeqB x l):∀j,j<=l.length->j<=30->(pW x l j).length=rT x/\∀n∈pW x l j,-(63000+1000*(j:Int))<=n/\n<=63000+1000*(j:Int)
 | 0,_,_=>by
   obtain⟨h1,_,X⟩:=JE h E F;exact⟨h1,fun n E=>by have:=X n E;omega⟩
 | j+1,hj,h30=>by
   obtain⟨h1,Y⟩:=LG h E F j (by omega) (by omega);obtain⟨v,J⟩:=aQ (show j<l.length by omega);obtain⟨i,d,rfl,hi,_⟩:=F.vis v (Xad J);have I:=yG h hi;have O:=sK h hi;rw[Ob h J hi];refine⟨by rw[EF (by omega)];exact h1,fun n E=>?_⟩;have:=Ew (s:=if d=true then -1 else 1) (by cases d;exact .inl rfl;exact .inr rfl) (B:=63000+1000*(j:Int)) (by omega) I Y n E;omega
structure LdJ(x:Instance)(l:List Visit)(j:Nat)(ld:List Int):Prop where
 len:ld.length=rT x
 le:∀c,ld.getD c 0+Vo x l j c<=(pW x l j).getD c 0
theorem Zp(h:Acc x)(F:x.orders.length<=8)(E:SeqB x l):LdJ x l 0 (List.replicate (rT x) 0):=by
 obtain⟨_,I,_⟩:=JE h F E;refine⟨by simp,fun c=>?_⟩;rw[I c];have:(List.replicate (rT x) (0:Int)).getD c 0=0:=by
   rw[List.getD,List.getElem?_replicate];split <;> rfl
 omega
theorem ahP(h:Acc x)(hn:x.orders.length<=8)(X:SeqB x l)(ac:j<30){q:RP}(Y:l[j]?=some ⟨(i:Nat),d⟩)(I:LdJ x l j q.load)(hB:∀n∈q.load,-1000000<=n/\n<=1000000):LdJ x l (j+1) (hY q (aF x i) d):=by
 have ad:=(List.getElem?_eq_some_iff.1 Y).1;obtain⟨J,d',e,hi,aa,_⟩:=X.vis _ (Xad Y);obtain⟨rfl,rfl⟩:J=i/\d'=d:=by injection e with a b;exact⟨by omega,b.symm⟩
 have Z:=yG h hi;have O:=sK h hi;obtain⟨n1,n2⟩:=LG h hn X j (by omega) (by omega);have hN:=Ob h Y hi;have F:=EN (s:=if d'=true then -1 else 1) (by cases d';exact .inl rfl;exact .inr rfl) (a:=pW x l j) Z (fun n hn=>by have:=n2 n hn;omega) (by omega);rw[<-hN]at F;have E:∀c,Vo x l (j+1) c<=Vo x l j c:=fun c=>JZ (Gw h) _
 have hg:=fun s X=>EN (s:=s) X (a:=q.load) Z hB (by rw[I.len,O])
 unfold hY;cases d' with
 | false=>
   rw[if_pos rfl];refine⟨by rw[EF (by rw[I.len,O])];exact I.len,fun c=>?_⟩;rw[hg 1 (.inl rfl) c,F c,if_neg (by simp)];have:=I.le c;have:=E c;omega
 | true=>
   rw[if_neg (by simp)];by_cases hb:gO (aF x J)=true
   . rw[if_pos hb]
     refine⟨by rw[EF (by rw[I.len,O])];exact I.len,fun c=>?_⟩;rw[hg (-1) (.inr rfl) c,F c,if_pos rfl];have:=I.le c;have:=E c;omega
   . rw[if_neg hb]
     refine⟨I.len,fun c=>?_⟩;rw[F c,if_pos rfl];have ab:=I.le c;have ho:Ij x J=true:=by
       have hd:(aF x J).drop.place>=0:=aa;unfold Ij;unfold gO at hb;simp only[Xam,decide_eq_true_eq,not_and]at hb;rw[decide_eq_true_eq];omega
     have h1:sS x l (j+1) c ((J:Nat):Int)=0:=by
       unfold sS;rw[if_pos (E2.2 (Xad (i:=j) (by rw[List.getElem?_take,if_pos (by omega)];exact Y)))]
     have h2:sS x l j c ((J:Nat):Int)=(aF x J).load.getD c 0:=by
       unfold sS xN;rw[if_neg (fun hc=>X.twice j _ Y (E2.1 hc)),Xan,if_pos ho]
     have:=Ir (f:=sS x l (j+1) c) (g:=sS x l j c) (a:=((J:Nat):Int)) (c:=(aF x J).load.getD c 0) (Gw h) (by rw[h1,h2];omega) (Sq.iS (gM l).1) (agY h X (Xad Y));show q.load.getD c 0+Au (sS x l (j+1) c) (Sq.iS (gM l).1)<=_
     change q.load.getD c 0+Au (sS x l j c) (Sq.iS (gM l).1)<=_ at ab
     omega
theorem agL(h:Acc x){ld cap:List Int}(I:LdJ x l j ld)(E:(pW x l j).length=rT x)(F:fE (pW x l j) cap=true)(J:cap.length=rT x):pG ld cap=true:=by
 rw[vT (by omega)]at F;refine L4 (by rw[I.len,E]) (fun c=>?_) F;have h1:=I.le c;have O:0<=Vo x l j c:=TD (U2 h) _;omega
theorem ahQ{r:Route}(J:dF r.type x.types.length=false)(E:uX x r=0)(F:sI x r.visits=0){j:Nat}(X:j<=r.visits.length):fE (pW x r.visits j) (B0 x r.type)=true:=by
 unfold uX at E;rw[if_neg (by rw[J];simp)]at E;have e:mZ x r.visits=(tA x r.visits (r.visits.length+1),0):=by unfold mZ;rw[if_neg (by rw[F];simp)]
 rw[e,if_neg (by simp)]at E;split at E
 . cases E
 next O=>
   false_or_by_contra
   rename_i I
   refine O (Xau.2 ⟨pW x r.visits j,?_,by simpa using I⟩);unfold tA;exact List.mem_map.2 ⟨j,Xap.2 (by omega),rfl⟩
end
end Go.Proofs.YtdlijlecpopadaaGreatDoor.Rx
end
section
namespace Go.Proofs.YtdlijlecpopadaaGreatDoor.Rx
open Go.Aw Go.Aw.D Go.Proofs Ty
open Sq
open Go.Nu
def plJ(x:Instance)(t:VType)(l:List Visit)(j:Nat):Int:=pR t (cJ x l) j
def miJ(x:Instance)(t:VType)(l:List Visit):Nat->Int
 | 0=>0
 | j+1=>miJ x t l j+mil x.net t (plJ x t l j) (plJ x t l (j+1))
def vJ(l:List Visit)(j:Nat):Visit:=l.getD j ⟨0,false⟩
def stJ(x:Instance)(l:List Visit)(j:Nat):Bool:=bQ (aF x (vJ l j).order.toNat) (vJ l j).drop
def mvJ(x:Instance)(k:Nat)(l:List Visit):Nat->Int
 | 0=>0
 | j+1=>mvJ x k l j+if stJ x l j=true then dU (aF x (vJ l j).order.toNat).now k else 0
def otJ(x:Instance)(k:Nat)(l:List Visit):Nat->Int
 | 0=>0
 | j+1=>otJ x k l j+if stJ x l j=true then dU (aF x (vJ l j).order.toNat).last k else 0
def duJ(x:Instance)(du:Option (List ByteArray))(l:List Visit):Nat->Rat
 | 0=>0
 | j+1=>duJ x du l j+if stJ x l j=true then duV du (vJ l j).order.toNat else 0
def vlJ(x:Instance)(k:Nat)(du:Option (List ByteArray))(l:List Visit)(j:Nat):Rat:=
 (((aC x k).perMile*miJ x (aC x k) l j*16777216+(mvJ x k l j*16+otJ x k l j)*65536:Int):Rat)-duJ x du l j
theorem NE{l:List Visit}{j:Nat}{v:Visit}(h:l[j]?=some v):vJ l j=v:=by unfold vJ;rw[List.getD,h];rfl
section
variable{x:Instance}{k:Nat}{near:List Int}{du:Option (List ByteArray)}{dl:List ByteArray}{M:Nat}{p:Part}{q:RP}{l:List Visit}{r:Route}{i j:Nat}{d:Bool}
theorem acB:∀j,(0<=mvJ x k l j/\mvJ x k l j<=j)/\(0<=otJ x k l j/\otJ x k l j<=j)
 | 0=>⟨⟨Xaj _,Xaj _⟩,Xaj _,Xaj _⟩
 | j+1=>by
   have:=acB j;have F:=BO (k:=k) (a:=(aF x (vJ l j).order.toNat).now);have E:=BO (k:=k) (a:=(aF x (vJ l j).order.toNat).last);unfold mvJ otJ;split <;> omega
theorem JV(h:Ctx x k near):∀j,0<=miJ x (aC x k) l j/\miJ x (aC x k) l j<=10000*(j:Int)
 | 0=>⟨Xaj _,by show(0:Int)<=10000*((0:Nat):Int);omega⟩
 | j+1=>by
   have:=JV h j;have:=wN h.mil (aC x k) (plJ x (aC x k) l j) (plJ x (aC x k) l (j+1));unfold miJ;omega
theorem SM(h:Ctx x k near)(ra:Rel x (aC x k) p q)(hv:p.visits<=16){m:Lab}{b:Bool}(Y:m.since<=4096)(hc:∃c∈p.clocks,c.ready=m.ready/\c.since<=m.since){goal:Int}
   (h0:(goL x (aC x k) p.place goal m b).2.2=0) (h1:rH x (aC x k) p.place goal m b<=(aC x k).drive):
   ∃e∈(bI x.net (aC x k) p.place goal p.clocks).1,e.ready=(goL x (aC x k) p.place goal m b).1/\e.since<=rH x (aC x k) p.place goal m b:=by
 obtain⟨c,E,O,c2⟩:=hc;have I:∃e∈both (aC x k) p.clocks,e.ready=qT (aC x k) m b/\e.since<=pP m b/\pP m b<=4096:=by
   cases b with
   | false=>exact⟨c,nI.2 ⟨c,E,.inl rfl⟩,O,c2,Y⟩
   | true=>exact⟨oL (aC x k) c,nI.2 ⟨c,E,.inr rfl⟩,by show W (c.ready+_)=W (m.ready+_);rw[O],Xaj _,by show(0:Int)<=4096;decide⟩
 obtain⟨e,X,F,e2,e3⟩:=I;have hb:=Bp h ra X;have aa:=GA (fun a ha=>h.acc.arc a ha) (n:=x.net) (p:=(aC x k).profile) (f:=p.place) (g:=goal) (t:=e.ready) hb.1 (by rw[F];exact h0);unfold rH at h1 |-;have Z:goL x (aC x k) p.place goal m b=dH x.net (aC x k).profile p.place goal e.ready:=by rw[F];rfl
 rw[Z]at h0 h1 |-;rw[<-F]at h1 |-;generalize pP m b=sn at *;have w1:W (W (sn+(dH x.net (aC x k).profile p.place goal e.ready).1)-e.ready)=sn+(dH x.net (aC x k).profile p.place goal e.ready).1-e.ready:=by
   rw[bP (n:=sn+(dH x.net (aC x k).profile p.place goal e.ready).1) (by omega),bP (by omega)]
 have J:W (W (e.since+(dH x.net (aC x k).profile p.place goal e.ready).1)-e.ready)=e.since+(dH x.net (aC x k).profile p.place goal e.ready).1-e.ready:=by
   rw[bP (n:=e.since+(dH x.net (aC x k).profile p.place goal e.ready).1) (by omega),bP (by omega)]
 rw[w1]at h1 |-;refine⟨⟨(dH x.net (aC x k).profile p.place goal e.ready).1,W (W (e.since+(dH x.net (aC x k).profile p.place goal e.ready).1)-e.ready)⟩,?_,rfl,?_⟩
 . rw[(kG _ _ _ _ _).1]
   refine List.mem_filterMap.2 ⟨e,X,?_⟩;unfold CL;rw[if_pos];rw[h0,J];simp only[Xbt,Xba,decide_eq_true_eq];omega
 . show W (W (e.since+(dH x.net (aC x k).profile p.place goal e.ready).1)-e.ready)<=_
   rw[J];omega
theorem Tc(O:SeqB x l)(I:l[j]?=some ⟨(i:Nat),d⟩):(cJ x l)[j]?=some (stR (aF x i) d)/\plJ x (aC x k) l (j+1)=(stR (aF x i) d).place:=by
 obtain⟨E,F,e,hi,X,_⟩:=O.vis _ (Xad I);obtain⟨rfl,rfl⟩:E=i/\F=d:=by injection e with a b;exact⟨by omega,b.symm⟩
 have h1:fP x ⟨(E:Nat),F⟩=(stR (aF x E) F,decide ((stR (aF x E) F).place>=0)):=by
   have Y:dF ((E:Nat):Int) x.orders.length=false:=by unfold dF;simp;omega
   unfold fP;rw[if_neg (by rw[Y];simp)];show(match x.orders[(((E:Nat):Int)).toNat]? with|some o_1=>_|none=>_)=_;rw[Xan,eU hi];rfl
 have J:(cJ x l)[j]?=some (stR (aF x E) F):=by
   unfold cJ;rw[List.getElem?_map,I];show some (fP x ⟨(E:Nat),F⟩).1=_;rw[h1]
 refine⟨J,?_⟩;show((cJ x l).getD j Sq.kC).place=_;rw[List.getD,J];rfl
structure Sim(x:Instance)(k:Nat)(du:Option (List ByteArray))(M:Nat)(l:List Visit)(r:Route)(j:Nat)(p:Part):Prop where
 good:Good x k M p
 vis:p.visits=j
 place:p.place=plJ x (aC x k) l j
 board:∀o:Nat,p.board.testBit o=true↔gO (aF x o)=true/\(⟨(o:Nat),false⟩:Visit)∈l.take j/\¬(⟨(o:Nat),true⟩:Visit)∈l.take j
 mem:∀o:Nat,p.memory.testBit o=true->∃d,(⟨(o:Nat),d⟩:Visit)∈l.take j
 load:LdJ x l j p.load
 clk:∀m∈dpP x (aC x k) r (cJ x l) j,m.since<=4096/\m.sheet.miles=miJ x (aC x k) l j/\∃c∈p.clocks,c.ready=m.ready/\c.since<=m.since
 val:jI p.value=vlJ x k du l j
theorem Ch{l:List Visit}{j:Nat}{v:Visit}(h:l[j]?=some v)(u:Visit):u∈l.take (j+1)↔u∈l.take j\/u=v:=by
 rw[bX h,Xaq,Xak]
theorem aeB{b i:Nat}(h:b.testBit i=true)(o:Nat):(b-2^i).testBit o=(b.testBit o&&decide (o≠i)):=by
 have e:=NY (b:=b) (o:=i) (by rw[lX];exact h);rw[<-e];unfold AS;rw[Nat.testBit_xor,Xcf];by_cases E:o=i
 . subst E
   rw[h,Xcx];simp
 . rw[Xcn (fun e=>E e.symm)]
   simp[E]
theorem aiZ(E:dpP x (aC x k) r (cJ x l) (j+1)≠[]):dpP x (aC x k) r (cJ x l) j≠[]:=fun e=>E (by
 show DG x (aC x k) r (cJ x l) (dpP x (aC x k) r (cJ x l) j) j=[];rw[e];rfl)
theorem Vj(h:Ctx x k near)(J:SeqB x l)(F:r.start=0):Sim x k du M l r 0 (fC (wOf x k near du M)):=by
 have I:=h.ty;have h1:=I.start;refine⟨E1 h,rfl,rfl,fun o=>?_,fun o E=>?_,?_,fun m O=>?_,?_⟩
 . show(0:Nat).testBit o=true↔_
   rw[Nat.zero_testBit];simp
 . change (0:Nat).testBit o=true at E
   rw[Nat.zero_testBit]at E;cases E
 . show LdJ x l 0 (List.replicate (aC x k).cap.length 0)
   rw[Ai h.acc h.kind];exact Zp h.acc h.n J
 . rw[Xak.1 (show m∈[qX (aC x k) r]from O)]
   refine⟨by show(0:Int)<=4096;decide,rfl,⟨(aC x k).start,0⟩,Xak.2 rfl,?_,Xaj _⟩;show(aC x k).start=gA (aC x k).start r.start;rw[F];unfold gA;split <;> omega
 . show jI (dec 0)=((((aC x k).perMile*0*16777216+(0*16+0)*65536:Int):Rat))-0
   rw[Bm,Int.mul_zero];grind
theorem abT(h:Ctx x k near)(hd:DuB x.orders.length du dl)(hM:M<=15)(hs:SeqB x l)(a5:l.length<=M)(an:∀j,j<=l.length->fE (pW x l j) (aC x k).cap=true)
   (av:∀i d,(⟨(i:Nat),d⟩:Visit)∈l->oQ (aC x k).skills (aF x i).skills=true) (S:Sim x k du M l r j p) {v:Visit} (X:l[j]?=some v) (aq:dpP x (aC x k) r (cJ x l) (j+1)≠[]):
   (cH (wOf x k near du M) p v).2=true/\Sim x k du M l r (j+1) (cH (wOf x k near du M) p v).1:=by
 have a6:=(List.getElem?_eq_some_iff.1 X).1;have ag:=Xad X;have hu:=hs.vis v ag;obtain⟨i,d,rfl,hi,ax,az⟩:=hs.vis v ag;obtain⟨q,ra,⟨va,da,aj⟩,hq⟩:=S.good.ok;have a4:=ra.visits;have ay:=S.vis;have al:=hs.twice j _ X;have sa:rK q i (bQ (aF x i) d)=false:=by
   have e1:kS q.memory i=p.memory.testBit i:=by rw[lX,ra.memory]
   have e2:kS q.board i=p.board.testBit i:=by rw[lX,ra.board]
   unfold rK;rw[e1,e2];cases F:bQ (aF x i) d with
   | true=>
     have aa:=hs.start X F;have m1:p.memory.testBit i=false:=by
       rw[Xbv];intro E;obtain⟨d',ah⟩:=S.mem i E;exact aa d' ah
     have m2:p.board.testBit i=false:=by
       rw[Xbv];intro E;exact aa false ((S.board i).1 E).2.1
     rw[m1,m2];rfl
   | false=>
     obtain⟨rfl,J,hp⟩:=hs.second X F;have m2:p.board.testBit i=true:=(S.board i).2 ⟨J,hp,al⟩;rw[m2];rfl
 have aw:LdJ x l j q.load:=by rw[<-ra.load];exact S.load
 have ar:∀n∈q.load,-1000000<=n/\n<=1000000:=fun n hn=>by
   rw[<-ra.load]at hn;have:=S.good.lb n hn;omega
 have ak:=ahP h.acc h.n hs (by omega) X aw ar;have fa:pG (hY q (aF x i) d) (aC x k).cap=true:=agL h.acc ak (LG h.acc h.n hs (j+1) (by omega) (by omega)).1 (an (j+1) (by omega)) (Ai h.acc h.kind);have n3:=(BW (near:=near) (du:=du) (M:=M) h ra hi ax az (av i d ag) (by omega)).2.2 sa fa;obtain⟨am,ab⟩:=Tc (k:=k) hs X
 -- labels and clocks
 have ae:∀m'∈dpP x (aC x k) r (cJ x l) (j+1),m'.since<=4096/\m'.sheet.miles=miJ x (aC x k) l (j+1)/\∃c∈eC (stR (aF x i) d) (bI x.net (aC x k) p.place (stR (aF x i) d).place p.clocks).1,c.ready=m'.ready/\c.since<=m'.since:=by
   intro m' af;rcases Ac _ _ af with af|⟨m,hm,b,J⟩
   . cases af
   obtain⟨c1,c2,c3⟩:=S.clk m hm;unfold kV at J;rw[am]at J
   change qK x (aC x k) (plJ x (aC x k) l j) (stR (aF x i) d) j m b=.ok m' at J
   rw[<-S.place]at J;unfold qK at J;split at J
   . cases J
   next g1=>
   split at J
   . cases J
   next g2=>
   split at J
   . cases J
   next g3=>
   injection J with J;subst J;have g1:(goL x (aC x k) p.place (stR (aF x i) d).place m b).2.2=0:=by simpa using g1
   obtain⟨e,he,e1,e2⟩:=SM h ra (by omega) c1 c3 g1 (by omega);obtain⟨s,ap,ac⟩:=(qL (stR (aF x i) d) (bI x.net (aC x k) p.place (stR (aF x i) d).place p.clocks).1).2 e he (by unfold okC;rw[e1];omega);have ac:=nV.1 ac;have a7:=h.ty.drive;refine⟨by show rH x (aC x k) p.place (stR (aF x i) d).place m b<=4096;omega,?_,s,ap,?_,?_⟩
   . show W (m.sheet.miles+(goL x (aC x k) p.place (stR (aF x i) d).place m b).2.1)=_
     have e3:(goL x (aC x k) p.place (stR (aF x i) d).place m b).2.1=mil x.net (aC x k) p.place (stR (aF x i) d).place:=by
       show(dH x.net (aC x k).profile p.place (stR (aF x i) d).place (qT (aC x k) m b)).2.1=_;rw[KY x.net (aC x k).profile p.place (stR (aF x i) d).place _ 0];rfl
     have r1:=JV (l:=l) h j;have r2:=wN h.mil (aC x k) p.place (stR (aF x i) d).place;rw[e3,c2,bP (by omega)];show _=miJ x (aC x k) l j+mil x.net (aC x k) (plJ x (aC x k) l j) (plJ x (aC x k) l (j+1));rw[ab,S.place]
   . rw[ac.1]
     show W (gA e.ready (stR (aF x i) d).start+(stR (aF x i) d).service)=W (gA (goL x (aC x k) p.place (stR (aF x i) d).place m b).1 (stR (aF x i) d).start+(stR (aF x i) d).service);rw[e1]
   . have:s.since<=e.since:=ac.2
     show s.since<=rH x (aC x k) p.place (stR (aF x i) d).place m b;omega
 have ao:eC (stR (aF x i) d) (bI x.net (aC x k) p.place (stR (aF x i) d).place p.clocks).1≠[]:=by
   obtain⟨m',L,e⟩:=List.exists_cons_of_ne_nil aq;obtain⟨_,_,c,E,_⟩:=ae m' (by rw[e];simp);intro h0;rw[h0]at E;cases E
 have hn:(cH (wOf x k near du M) p ⟨(i:Nat),d⟩).2=true:=by
   rw[n3,nK];exact decide_eq_true (Xcy.2 ao)
 have a0:=(kG x.net (aC x k) p.place (stR (aF x i) d).place p.clocks).2 (fun e=>ao (by rw[e];rfl));obtain⟨G,G2⟩:=CK h hd hM S.good hu hn;refine⟨hn,G,by rw[G2,ay],?_,?_,?_,?_,?_,?_⟩
 . rw[n3,nK,ab]
 . rw[n3,nK]
   intro o;show(if bQ (aF x i) d=true then(if gO (aF x i)=true then p.board+2^i else p.board)else p.board-2^i).testBit o=true↔_;rw[Ch X,Ch X];by_cases F:bQ (aF x i) d=true
   . have aa:=hs.start X F
     rw[if_pos F];have m2:p.board.testBit i=false:=by
       rw[Xbv];intro E;exact aa false ((S.board i).1 E).2.1
     by_cases J:gO (aF x i)=true
     . rw[if_pos J,Ev m2,Nat.testBit_or]
       have au:d=false:=by
         unfold bQ at F;rw[J]at F;simpa using F
       subst au;by_cases ho:o=i
       . subst ho
         rw[Xcx,Bool.or_true];refine⟨fun _=>⟨J,.inr rfl,?_⟩,fun _=>rfl⟩;rintro(h1|h1)
         . exact aa true h1
         . injection h1 with _ h2;cases h2
       . rw[Xcn (fun e=>ho e.symm),Bool.or_false,S.board o]
         have I:∀d' O,(⟨(o:Nat),d'⟩:Visit)≠⟨(i:Nat),O⟩:=fun d' O e=>ho (by injection e with a b;omega)
         constructor
         . rintro⟨a,b,c⟩
           exact⟨a,.inl b,fun E=>by rcases E with E|E;exact c E;exact I _ _ E⟩
         . rintro⟨a,b,c⟩
           exact⟨a,by rcases b with b|b;exact b;exact absurd b (I _ _),fun E=>c (.inl E)⟩
     . rw[if_neg J,S.board o]
       by_cases ho:o=i
       . subst ho
         exact⟨fun E=>absurd E.1 J,fun E=>absurd E.1 J⟩
       . have I:∀d' O,(⟨(o:Nat),d'⟩:Visit)≠⟨(i:Nat),O⟩:=fun d' O e=>ho (by injection e with a b;omega)
         constructor
         . rintro⟨a,b,c⟩
           exact⟨a,.inl b,fun E=>by rcases E with E|E;exact c E;exact I _ _ E⟩
         . rintro⟨a,b,c⟩
           exact⟨a,by rcases b with b|b;exact b;exact absurd b (I _ _),fun E=>c (.inl E)⟩
   . rw[if_neg F]
     obtain⟨rfl,J,hp⟩:=hs.second X (by simpa using F);have m2:p.board.testBit i=true:=(S.board i).2 ⟨J,hp,al⟩;rw[aeB m2,Xam,S.board o];by_cases ho:o=i
     . subst ho
       constructor
       . rintro⟨_,E⟩;simp at E
       . rintro⟨_,_,E⟩;exact absurd (.inr rfl) E
     . have I:∀d' O,(⟨(o:Nat),d'⟩:Visit)≠⟨(i:Nat),O⟩:=fun d' O e=>ho (by injection e with a b;omega)
       constructor
       . rintro⟨⟨a,b,c⟩,_⟩
         exact⟨a,.inl b,fun E=>by rcases E with E|E;exact c E;exact I _ _ E⟩
       . rintro⟨a,b,c⟩
         exact⟨⟨a,by rcases b with b|b;exact b;exact absurd b (I _ _),fun E=>c (.inl E)⟩,by simpa using ho⟩
 . rw[n3,nK]
   intro o;show(if bQ (aF x i) d=true then rI near p.memory i else p.memory).testBit o=true->_;intro hm;have ai:p.memory.testBit o=true\/o=i:=by
     split at hm
     . unfold rI at hm
       rw[Nat.testBit_or,Xcf,Xbc,Xam]at hm;rcases hm with hm|hm
       . exact .inl hm.1
       . by_cases ho:o=i
         . exact .inr ho
         . rw[Xcn (fun e=>ho e.symm)]at hm;cases hm
     . exact .inl hm
   rcases ai with ai|rfl
   . obtain⟨d',ah⟩:=S.mem o ai
     exact⟨d',(Ch X _).2 (.inl ah)⟩
   . exact⟨d,(Ch X _).2 (.inr rfl)⟩
 . rw[n3,nK];exact ak
 . rw[n3,nK];exact ae
 . rw[n3,nK]
   show jI (addV (rR x k near du p q i d).value (W (W ((aC x k).perMile*(bI x.net (aC x k) p.place (stR (aF x i) d).place p.clocks).2)*16777216)))=_;have b0:=tW h.money.2.1 (wN h.mil (aC x k) p.place (stR (aF x i) d).place);rw[a0];have ad:=S.val;rw[aj.own.val]at ad;have e5:vlJ x k du l (j+1)=vlJ x k du l j+Cs x k du i d+(((aC x k).perMile*mil x.net (aC x k) p.place (stR (aF x i) d).place*16777216:Int):Rat):=by
     unfold vlJ;show(((aC x k).perMile*(miJ x (aC x k) l j+mil x.net (aC x k) (plJ x (aC x k) l j) (plJ x (aC x k) l (j+1)))*16777216+((mvJ x k l j+if stJ x l j=true then dU (aF x (vJ l j).order.toNat).now k else 0)*16+(otJ x k l j+if stJ x l j=true then dU (aF x (vJ l j).order.toNat).last k else 0))*65536:Int):Rat)-(duJ x du l j+if stJ x l j=true then duV du (vJ l j).order.toNat else 0)=_;rw[ab,<-S.place];have e6:stJ x l j=bQ (aF x i) d:=by unfold stJ;rw[NE X];rfl
     rw[e6,NE X];show(((aC x k).perMile*(miJ x (aC x k) l j+mil x.net (aC x k) p.place (stR (aF x i) d).place)*16777216+((mvJ x k l j+if bQ (aF x i) d=true then dU (aF x i).now k else 0)*16+(otJ x k l j+if bQ (aF x i) d=true then dU (aF x i).last k else 0))*65536:Int):Rat)-(duJ x du l j+if bQ (aF x i) d=true then duV du i else 0)=_;rw[Int.mul_add];unfold Cs;generalize (aC x k).perMile*miJ x (aC x k) l j=A;generalize (aC x k).perMile*mil x.net (aC x k) p.place (stR (aF x i) d).place=B;generalize dU (aF x i).now k=D1;generalize dU (aF x i).last k=D2;generalize duV du i=Y;generalize mvJ x k l j=Mv;generalize otJ x k l j=Ot;generalize duJ x du l j=Z;by_cases F:bQ (aF x i) d=true
     . rw[if_pos F,if_pos F,if_pos F,if_pos F]
       rw[show(A+B)*16777216+((Mv+D1)*16+(Ot+D2))*65536=(A*16777216+(Mv*16+Ot)*65536)+((D1*16+D2)*65536)+B*16777216 by omega,Rat.intCast_add,Rat.intCast_add];generalize ((A*16777216+(Mv*16+Ot)*65536:Int):Rat)=a1;generalize (((D1*16+D2)*65536:Int):Rat)=a2;generalize ((B*16777216:Int):Rat)=a3
       grind
     . rw[if_neg F,if_neg F,if_neg F,if_neg F]
       rw[show(A+B)*16777216+((Mv+0)*16+(Ot+0))*65536=(A*16777216+(Mv*16+Ot)*65536)+B*16777216 by omega,Rat.intCast_add];generalize ((A*16777216+(Mv*16+Ot)*65536:Int):Rat)=a1;generalize ((B*16777216:Int):Rat)=a3
       grind
   generalize (aC x k).perMile*mil x.net (aC x k) p.place (stR (aF x i) d).place=pm at *;rw[bP (n:=pm) (by omega),bP (n:=pm*16777216) (by omega)];have wp:=(KG (k:=k) (near:=near) (a:=q) (dr:=d) hd hi (by omega) aj.own).addV (n:=pm*16777216) (by omega) (by omega);rw[wp.val,e5,<-ad]
end
end Go.Proofs.YtdlijlecpopadaaGreatDoor.Rx
end
