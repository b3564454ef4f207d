import Derived.Test.YthephioccidfgaaGreatDoorVs10
set_option linter.unusedSimpArgs false
set_option linter.unusedVariables false
set_option linter.defProp false
set_option maxRecDepth 100000
namespace Go.Proofs.YthephioccidfgaaGreatDoor
open Go.Aw Go.Aw.D Go.Proofs Ty
namespace Sq
open Go.Proofs.Tryz
open Mv (bZ cL aR)
def dB(l:Lab):List AV:=[int l.ready,int l.since,boo l.sheet.rest,int l.sheet.depart,.sl (l.sheet.times.map wF),int l.sheet.end_,int l.sheet.miles]
def lV(l:Lab):(dB l).length=7:=(rfl)
def anQ(l:Lab):(dB l).getD 0 .any=int l.ready:=(rfl)
def ahH(l:Lab):(dB l).getD 1 .any=int l.since:=(rfl)
def aoD(l:Lab):(dB l).getD 4 .any=.sl (l.sheet.times.map wF):=(rfl)
def anK(l:Lab):(dB l).getD 5 .any=int l.sheet.end_:=(rfl)
def ahF(l:Lab):((dB l).drop 2).take 5=cH l.sheet:=(rfl)
def Wh(l:Lab):(dB l).take 7=dB l:=(rfl)
def dC(x:Instance)(t:VType)(r:Route)(st:List Stop):List AV:=aE x++(bB t++(bM r++[.sl (st.map eQ)]))
section
variable(x:Instance)(t:VType)(r:Route)(st:List Stop)
def Hu:(dC x t r st).length=25:=(rfl)
def abI:(dC x t r st).getD 8 .any=int t.src:=(rfl)
def adP:(dC x t r st).getD 9 .any=int t.dst:=(rfl)
def XD:(dC x t r st).getD 12 .any=int t.profile:=(rfl)
def Xl:(dC x t r st).getD 13 .any=int t.start:=(rfl)
def U5:(dC x t r st).getD 14 .any=int t.close:=(rfl)
def VO:(dC x t r st).getD 15 .any=int t.drive:=(rfl)
def X7:(dC x t r st).getD 16 .any=int t.rest:=(rfl)
def Vx:(dC x t r st).getD 21 .any=int r.start:=(rfl)
def UY:(dC x t r st).getD 22 .any=.sl (r.rests.map fY):=(rfl)
def Vc:(dC x t r st).getD 24 .any=.sl (st.map eQ):=(rfl)
def SK:(dC x t r st).take 2=bA x.net:=(rfl)
def Q0:(dC x t r st).take 25=dC x t r st:=(rfl)
end
attribute [go_sem] lV anQ ahH aoD anK ahF Wh Hu abI adP XD Xl U5 VO X7 Vx UY Vc SK Q0
def Fs:Lab:=⟨0,0,aS⟩
abbrev gU(cs:List AV):Row:=⟨223,7,[cs]⟩
def uE(t:VType)(st:List Stop)(k:Nat):Int:=match k with
 | 0=>t.src
 | j+1=>(st.getD j mJ).place
def Uh(x:Instance)(t:VType)(r:Route)(st:List Stop):PC prog 128 [.agg (dC x t r st)] (.agg (dB (eZ t r))):=by
 refine pcd func128 rfl rfl ?_;simp only[go_sem];refine fR fun F A E (J:A F=some (gU (dB Fs))) N=>?_
 simp only[go_sem];refine aM J (by simp) ?_;simp only[go_sem];exact .refl _
def aqK(x:Instance)(t:VType)(r:Route)(st:List Stop)(k:Nat)(O:k<=st.length)(J:st.length<=1048576):PC prog 212 [.agg (dC x t r st),int k] (int (uE t st k)):=by
 refine pcd func212 rfl rfl ?_;simp only[go_sem];apply aA <;> intro F
 ·have:k=0:=by grind
  subst this;simp only[go_sem];exact .refl _
 ·obtain⟨j,rfl⟩:∃j,k=j+1:=⟨k-1,by grind⟩;obtain⟨s,E⟩:=aI (show j<st.length by omega);have w:IntKind.i64.wrap (((j+1:Nat):Int)-1)=(j:Int):=by grind[bD]
  have A:=inB (show j<st.length by omega);simp only[go_sem,w,aC E,A]
  grind[bZ,uE]
def Z4:∀l:List Tm,cQ 4 (l.map wF)
 | []=>trivial
 | _::r=>⟨rfl,Z4 r⟩
def aoK(l:List Tm)(T:l.length<=1048576):NC prog 210 [.sl (l.map wF)] (Hq l) .os:=by
 refine ncb (fun t=>t == 2||t == 5) func210 rfl rfl ?_;simp only[go_sem];refine aJ fun j O=>?_
 have R:=aB bY j (some (Hq []));generalize aH bY j _=H at R |-;simp only[go_sem];refine⟨fun J=>?_,?_⟩
 ·refine aA (fun _=>?_) (fun A=>by simp at A);simp only[go_sem];refine aJ fun i F=>?_
  simp only[go_sem]
  grind[aB]
 ·refine aA (fun A=>by simp at A) (fun _=>?_);simp only[go_sem];refine aJ fun i F=>?_
  simp only[go_sem];refine bC (aB _ _ _) ⟨rfl,rfl⟩ (Z4 _) (by grind) (fun j' E=>?_);simp only[go_sem]
  grind[aB]
def nE(x:Instance)(t:VType)(st:List Stop)(k:Nat)(l:Lab)(b:Bool):Except Int Lab:=match st[k]? with
 | some s=>pD x t (uE t st k) s k l b
 | none=>rZ x t (uE t st k) k l b
def aqN(e:Except Int Lab):Lab:=match e with| .ok l=>l| .error _=>Fs
def wE:Instance:=⟨⟨[],[]⟩,[],[],[],[]⟩
def DY:VType:=⟨ByteArray.empty,0,0,0,[],0,0,0,0,0,0,0,0,0⟩
def DG:Route:=⟨0,0,[],[]⟩
abbrev A6(cs:List AV):Row:=⟨219,25,[cs]⟩
def fA(x:Instance)(l:List Visit):List Stop:=l.map fun v=>(bI x v).1
def DA(x:Instance)(r:Route):List AV×Bool:=if bW x r=true then match x.types[r.type.toNat]? with
 | some t=>(dC x t r (fA x r.visits),true)
 | none=>(dC wE DY DG [],false)
 else(dC wE DY DG [],false)
def Hh(x:Instance)(t:VType)(r:Route)(j:Nat):List AV:=aE x++(bB t++(bM r++[.os j]))
def tk1{x:Instance}{l:List AV}:(aE x++l).take 6=aE x:=(rfl)
def dr1{x:Instance}{l:List AV}:(aE x++l).drop 20=l.drop 14:=(rfl)
def tk2{x:Instance}{t:VType}{l:List AV}:(aE x++bB t++l).take 20=aE x++bB t:=(rfl)
def dr2{x:Instance}{t:VType}{l:List AV}:(aE x++bB t++l).drop 24=l.drop 4:=(rfl)
abbrev EX(l:List Stop):Row:=⟨76,4,l.map eQ⟩
def arI(x:Instance)(t:VType)(r:Route)(j:Nat):(Hh x t r j).getD 24 .any=.os j:=(rfl)
def agG(x:Instance)(t:VType)(r:Route)(j:Nat):(Hh x t r j).take 25=Hh x t r j:=(rfl)
def acY(x:Instance)(t:VType)(r:Route)(j:Nat):(Hh x t r j).length=25:=(rfl)
attribute [go_sem] arI agG acY
def CP{H:aG}{l l':List AV}(h:ConvL H l l'):∀p:List AV,ConvL H (p++l) (p++l')
 | []=>h
 | a::p=>.cons a a _ _ (.refl a) (CP h p)
def adK{H:aG}{x:Instance}{t:VType}{r:Route}{A:Nat}{st:List Stop}(R:H A=some (EX st)):ConvL H (Hh x t r A) (dC x t r st):=
 CP (CP (CP (.cons _ _ _ _ (.row _ _ _ R (ConvE.refl _)) .nil) _) _) _
def agS{x:Instance}{v:Visit}(h:(bI x v).2=true):0<=(bI x v).1.place/\dX x v=((bI x v).1,0):=by
 refine⟨?_,by simp_all[dX]⟩;unfold bI at h |-
 grind
def Wx{x:Instance}{v:Visit}(h:(bI x v).2=false):((dX x v).2 != 0)=true:=by
 unfold dX
 grind
def aAD(x:Instance)(r:Route)(hl:r.visits.length<=1048576):PC prog 127 [.agg (aE x),.agg (bM r)] (.tup [.agg (DA x r).1,boo (DA x r).2]):=by
 refine pcb (fun t=>t == 47) func127 rfl rfl ?_;simp only[go_sem];refine fR fun i4 ak aw (A:ak i4=some (A6 (dC wE DY DG []))) N=>?_
 simp only[go_sem];apply aA <;> intro h1
 ·have hp:bW x r=false:=by grind[bW,bS]
  have e:DA x r=(dC wE DY DG [],false):=by simp_all[DA]
  rw[e];simp only[go_sem];refine aM A (by simp) ?_;simp only[go_sem];exact .refl _
 have hp:bW x r=r.visits.all fun v=>(bI x v).2:=by grind[bW,bS]
 have au:0<=r.type/\r.type<(x.types.length:Int):=by grind
 have ax:r.visits.length<=20:=by grind
 obtain⟨t,ht⟩:=aI (show r.type.toNat<x.types.length by omega);simp only[go_sem];refine EG [(0,true),(1,true),(2,true),(3,true),(4,true),(5,true),(6,true),(7,true),(8,true),(9,false),(10,false)] (by kernel_rfl) ?_;simp only[go_sem,aC ht,au,Xaf,tk1,dr1,tk2,dr2];refine fR fun i6 ag ao (J:ag i6=some (A6 (dC wE DY DG []))) N=>?_
 replace A:=N A;obtain⟨F,A⟩:=A;clear N ao;simp only[go_sem,J,A];refine abL 24 76 4 ⟨rfl,by decide⟩ J ⟨by simp,rfl,Xae _⟩ fun O am=>?_
 have U:i6≠O:=aV J am;have T:i4≠O:=aV A am;generalize hG:aH (aH ag O _) i6 _=HG;replace A:=kpR hG F T A;have Rs:HG O=some (EX []):=by rw[<-hG,aD _ _ _ _ U.symm,aB];rfl
 replace J:HG i6=some (A6 (Hh x t r O)):=by rw[<-hG,aB];rfl
 simp only[go_sem];refine⟨fun ρ H=>∃k:Nat,k<=r.visits.length/\ρ 2=.rp (aE x) 0/\ρ 4=.op i4 0 0/\ρ 6=.op i6 0 0/\ρ 49=.sl (r.visits.map aL)/\ρ 50=int r.visits.length/\ρ 51=int k/\H i4=some (A6 (dC wE DY DG []))/\(∃O,H i6=some (A6 (Hh x t r O))/\H O=some (EX (fA x (r.visits.take k))))/\∀v∈r.visits.take k,(bI x v).2=true,fun ρ _=>r.visits.length-aU (ρ 51),⟨0,Xab _,rfl,rfl,rfl,rfl,rfl,by rfl,A,⟨O,J,Rs⟩,by simp⟩,?_⟩;rintro ρ H ⟨k,hk,h2,h4,h6,ae,ac,aa,A,⟨O,J,Rs⟩,hz⟩;have Y:O≠i6:=apE Rs J (by rfl);have E:O≠i4:=apE Rs A (by rfl);simp only[go_sem,ac,aa];refine aA (fun X=>?_) (fun ah=>?_)
 ·have X:=bF X;obtain⟨v,hv⟩:=aI X;have b1:=inB X;simp only[go_sem,ae,aa,aC hv,b1];refine aJ fun i8 ap=>?_
  simp only[go_sem,h2,h4,h6,ae,ac,aa,A,J,Rs];refine bP ap (by simp[dJ]) fun al (R8:al i8=some (⟨123,2,[aL v]⟩)) N=>?_
  replace A:=(N A).2;replace J:=(N J).2;replace Rs:=(N Rs).2;simp only[go_sem,h2,R8,];refine aO (Yr x v) ?_;simp only[go_sem];refine aJ fun i9 an=>?_
  simp only[go_sem];refine bP an (by simp[nP]) fun af (R9:af i9=some (CL (dX x v).1)) N=>?_
  replace A:=(N A).2;replace J:=(N J).2;replace Rs:=(N Rs).2;simp only[go_sem,R9,];cases ai:(bI x v).2 with
  | false=>
   have ar:=Wx ai;refine aA (fun _=>?_) (fun hb=>by rw[ar]at hb;simp at hb);simp only[go_sem,h4];refine aM A (by simp) ?_;simp only[go_sem,h4];have e:DA x r=(dC wE DY DG [],false):=by unfold DA;grind
   rw[e];exact .refl _
  | true=>
   obtain⟨ay,aq⟩:=agS ai;rw[aq]at R9 |-;refine aA (fun hb=>by simp at hb;omega) (fun _=>?_);simp only[go_sem,h6,J,R9];refine bC Rs ⟨rfl,rfl⟩ ⟨rfl,trivial⟩ (by grind[fA]) (fun j' ab=>?_);have Z:i6≠j':=aV J ab;have aj:i4≠j':=aV A ab;replace A:=dF (r':=⟨76,4,List.map eQ (fA x (r.visits.take k))++[eQ (bI x v).1]⟩) A E ab;replace J:=dF (r':=⟨76,4,List.map eQ (fA x (r.visits.take k))++[eQ (bI x v).1]⟩) J Y ab;have av:aH (aH af O none) j' (some (⟨76,4,List.map eQ (fA x (r.visits.take k))++[eQ (bI x v).1]⟩:Row)) j'=some (EX (fA x (r.visits.take (k+1)))):=by
    rw[aZ hv]
    grind[fA,pB]
   simp only[go_sem,h2,h4,h6,ae,ac,aa];refine cC axV J ⟨by simp,rfl,by simp⟩ ?_;simp only[go_sem,h2,h4,h6,ae,ac,aa,aW k];exact⟨⟨k+1,X,rfl,(aD _ _ _ _ F).trans A,⟨j',rfl,(aD _ _ _ _ Z.symm).trans av⟩,aR (p:=fun v=>(bI x v).2=true) hv ai hz⟩,msr X⟩
 ·have ah:=bG hk ah;subst ah;rw[Xad]at hz Rs;simp only[go_sem,h4,h6,J];refine aM A ⟨by simp,rfl,Xae _⟩ ?_;simp only[go_sem,h4];have e:DA x r=(dC x t r (fA x r.visits),true):=by simp_all[DA]
  rw[e];exact .tup [.agg (Hh x t r O),boo true] _ (.cons _ _ _ _ (.agg _ _ (adK ((aD _ _ _ _ E).trans Rs))) (ConvL.refl _))
def kH(rdy sin:Int)(sd:Sheet)(j:Nat):List AV:=[int rdy,int sin,boo sd.rest,int sd.depart,.os j,int sd.end_,int sd.miles]
def WE(a b s j):(kH a b s j).length=7:=(rfl)
def aqF(a b s j):(kH a b s j).getD 0 .any=int a:=(rfl)
def apT(a b s j):(kH a b s j).getD 1 .any=int b:=(rfl)
def anY(a b s j):(kH a b s j).getD 4 .any=.os j:=(rfl)
def ajF(a b s j):(kH a b s j).getD 6 .any=int s.miles:=(rfl)
def WT(a b s j):(kH a b s j).take 7=kH a b s j:=(rfl)
attribute [go_sem] WE aqF apT anY ajF WT
def Se{H:aG}{j:Nat}{l:Lab}(R:H j=some (Hq l.sheet.times)):ConvL H (kH l.ready l.since l.sheet j) (dB l):=
 .cons _ _ _ _ (.refl _) (.cons _ _ _ _ (.refl _) (.cons _ _ _ _ (.refl _) (.cons _ _ _ _ (.refl _) (.cons _ _ _ _ (.row _ _ _ R (ConvE.refl _)) (ConvL.refl _)))))
def auU{l:List Tm}{j:Nat}{A:Tm}(h:l[j]?=some A)(b:Bool):(l.map wF).set j (oY ((l.map wF).getD j []) 3 [boo b])=(l.set j ⟨A.arrive,A.begin_,A.depart,b⟩).map wF:=by rw[aC h,List.map_set];rfl
def aAC{l:List Tm}{j:Nat}{A:Tm}(h:l[j]?=some A)(d:Int):(l.map wF).set j (oY ((l.map wF).getD j []) 2 [int d])=(l.set j ⟨A.arrive,A.begin_,d,A.rest⟩).map wF:=by rw[aC h,List.map_set];rfl
def anE(x:Instance)(t:VType)(r:Route)(st:List Stop)(l:Lab)(k:Nat)(b:Bool)(hn:NetOk x.net)(ar:st.length<=1048576)(hk:k<=st.length)(hl:l.sheet.times.length=k):
  PC prog 175 [.agg (dC x t r st),.agg (dB l),int k,boo b] (.tup [.agg (dB (aqN (nE x t st k l b))),int (GZ (nE x t st k l b))]):=by
 refine pcd func175 rfl rfl ?_;simp only[go_sem];refine fR fun i8 ao au (J:ao i8=some (gU (dB Fs))) N=>?_
 simp only[go_sem];refine kB ?_;simp only[go_sem];refine bQ (fun T H'=>T 2=int k/\T 3=boo b/\T 4=.rp (dC x t r st) 0/\T 5=.rp (dB l) 0/\T 8=.op i8 0 0/\T 10=int (fI t l b)/\T 11=int (nY l b)/\H' i8=some (gU (dB Fs))) ?_ fun K hK=>aA (fun hb=>?_) (fun hb=>?_)
 rotate_left
 ·simp only[go_sem];exact hK _ _ ⟨rfl,rfl,rfl,rfl,rfl,by simp only[go_sem];unfold fI;rw[if_pos hb];rfl,by simp only[go_sem];simp_all[nY],J⟩
 ·simp only[go_sem];exact hK _ _ ⟨rfl,rfl,rfl,rfl,rfl,by simp only[go_sem];simp_all[fI],by simp only[go_sem];simp_all[nY],J⟩
 rintro ρ H ⟨h2,h3,h4,h5,Z,X,af,J⟩;simp only[go_sem,h5,];refine aJ fun F ak=>?_
 simp only[go_sem];refine bP ak (by simp[fW]) fun ag (A:ag F=some (gU ([int 0,int 0]++cH l.sheet))) N=>?_
 replace J:=N J;obtain⟨al,J⟩:=J;simp only[go_sem,h5,];refine NC.use (aoK l.sheet.times (by omega)) fun Y am=>?_
 have ab:i8≠Y:=aV J am;have ac:F≠Y:=aV A am;generalize hG:aH ag Y _=HG;replace J:=(congrFun hG.symm i8).trans ((aD _ _ _ _ ab).trans J);replace A:=(congrFun hG.symm F).trans ((aD _ _ _ _ ac).trans A);have O:HG Y=some (Hq l.sheet.times):=by rw[<-hG,aB]
 clear hG am;simp only[go_sem,h2,h3,h4,h5,Z,X,af,A];refine cC aqE A ⟨by simp,rfl,by simp⟩ ?_;generalize E:aH _ F _=HP;replace J:=kpA E (by omega) J;replace O:=kpA E (by omega) O;replace A:HP F=some (gU (kH 0 0 l.sheet Y)):=upS E;simp only[go_sem,h2,];refine bQ (fun T H'=>T 2=int k/\T 4=.rp (dC x t r st) 0/\T 8=.op i8 0 0/\T 10=int (fI t l b)/\T 11=int (nY l b)/\T 12=.op F 0 0/\H' i8=some (gU (dB Fs))/\H' F=some (gU (kH 0 0 (cM l.sheet k b (fI t l b)) Y))/\H' Y=some (Hq (cM l.sheet k b (fI t l b)).times)) ?_ fun K hK=>aA (fun hb=>?_) (fun hb=>?_)
 rotate_left
 ·have h0:k=0:=by grind
  subst h0;simp only[go_sem,h3,];refine cC so4 A ⟨by simp,rfl,by simp⟩ ?_;generalize E:aH _ F _=HP;replace J:=kpA E (by omega) J;replace O:=kpA E (by omega) O;replace A:HP F=some (gU (kH 0 0 { l.sheet with rest:=b } Y)):=upS E;simp only[go_sem,X,];refine cC so3 A ⟨by simp,rfl,by simp⟩ ?_;generalize E:aH _ F _=HP;replace J:=kpA E (by omega) J;replace O:=kpA E (by omega) O;replace A:HP F=some (gU (kH 0 0 { l.sheet with rest:=b,depart:=fI t l b } Y)):=upS E;simp only[go_sem];exact hK _ _ ⟨h2,h4,Z,X,af,rfl,J,A,O⟩
 ·obtain⟨j,rfl⟩:∃j,k=j+1:=⟨k-1,by grind⟩;have w:IntKind.i64.wrap (((j+1:Nat):Int)-1)=(j:Int):=by grind[bD]
  obtain⟨tm,aq⟩:=aI (show j<l.sheet.times.length by omega);have b1:=inB (show j<l.sheet.times.length by omega);have eg:l.sheet.times.getD j FW=tm:=by grind
  simp only[go_sem,h2,h3,A,O,w];refine⟨⟨b1.1,b1.2⟩,cC so4 O ⟨by grind,rfl,by simp⟩ ?_⟩;generalize E:aH _ Y _=HP;replace J:=kpA E (by omega) J;replace A:=kpA E (by omega) A;replace O:HP Y=some (Hq (l.sheet.times.set j ⟨tm.arrive,tm.begin_,tm.depart,b⟩)):=by rw[<-E,aB];exact congrArg (fun es=>some (⟨301,4,es⟩:Row)) (auU aq b)
  clear E;simp only[go_sem,h2,X,w,O,A];have ap:(l.sheet.times.set j ⟨tm.arrive,tm.begin_,tm.depart,b⟩)[j]?=some ⟨tm.arrive,tm.begin_,tm.depart,b⟩:=by grind
  refine⟨⟨b1.1,by grind⟩,cC so3 O ⟨by grind,rfl,by simp⟩ ?_⟩;generalize E:aH _ Y _=HP;replace J:=kpA E (by omega) J;replace A:=kpA E (by omega) A;replace O:HP Y=some (Hq ((l.sheet.times.set j ⟨tm.arrive,tm.begin_,tm.depart,b⟩).set j ⟨tm.arrive,tm.begin_,fI t l b,b⟩)):=by rw[<-E,aB];exact congrArg (fun es=>some (⟨301,4,es⟩:Row)) (aAC ap _)
  clear E;simp only[go_sem];refine hK _ _ ⟨h2,h4,Z,X,af,rfl,J,A,?_⟩
  grind[List.set_set,cM]
 rintro ρ H ⟨h2,h4,Z,X,af,U,J,A,O⟩;generalize hD:fI t l b=D at *;have E:=aqK x t r st k hk ar;rcases Xcb k st.length with an|av
 ·obtain⟨s,hs⟩:=aI an;have b1:=inB an;have aj:((k:Int) == (st.length:Int))=false:=by grind
  have eS:nE x t st k l b=pD x t (uE t st k) s k l b:=by grind[nE]
  rw[eS];unfold pD mL iV goL;simp only[hD];generalize hg:fB x.net t.profile (uE t st k) s.place D=g;simp only[go_sem,h2,h4,aj];refine aA (fun _=>?_) (fun hb=>by simp at hb);simp only[go_sem,h2,h4,aC hs,b1];refine kB ?_;simp only[go_sem,h2,h4,];refine⟨_,E.q rfl,?_⟩;simp only[go_sem,X,];refine⟨_,(apH x.net t.profile (uE t st k) s.place D hn).q rfl,?_⟩;rw[hg];simp only[go_sem];apply aA <;> intro he
  ·simp only[go_sem,Z];refine aM J (by simp) ?_;simp only[go_sem,Z];rw[if_pos he];exact .refl _
  rw[if_neg (by grind)];simp only[go_sem,U,A];refine cC so3 A ⟨by simp,rfl,by simp⟩ ?_;generalize E:aH _ F _=HP;replace J:=kpA E (by omega) J;replace O:=kpA E (by omega) O;replace A:HP F=some (gU (kH 0 0 { cM l.sheet k b D with miles:=W ((cM l.sheet k b D).miles+g.2.1) } Y)):=upS E;simp only[go_sem,X,af,U,];refine cC so3 A ⟨by simp,rfl,by simp⟩ ?_;generalize E:aH _ F _=HP;replace J:=kpA E (by omega) J;replace O:=kpA E (by omega) O;replace A:HP F=some (gU (kH 0 (W (W (nY l b+g.1)-D)) { cM l.sheet k b D with miles:=W ((cM l.sheet k b D).miles+g.2.1) } Y)):=upS E;simp only[go_sem];refine aA (fun hb=>by simp at hb) (fun _=>?_);simp only[go_sem,h2,h4,aC hs,b1];refine aO (YG s g.1) ?_;simp only[go_sem];by_cases hw:eF g.1 s.start>s.close
  ·rw[if_pos hw,if_pos hw,if_pos hw];refine aA (fun _=>?_) (fun hb=>by simp at hb);simp only[go_sem,Z];refine aM J (by simp) ?_;simp only[go_sem,Z];exact .refl _
  rw[if_neg hw,if_neg hw,if_neg hw];refine aA (fun hb=>by simp at hb) (fun _=>?_);simp only[go_sem,h2,h4,U,aC hs,b1];refine cC so3 A ⟨by simp,rfl,by simp⟩ ?_;generalize E:aH _ F _=HP;replace J:=kpA E (by omega) J;replace O:=kpA E (by omega) O;replace A:HP F=some (gU (kH (W (eF g.1 s.start+s.service)) (W (W (nY l b+g.1)-D)) { cM l.sheet k b D with miles:=W ((cM l.sheet k b D).miles+g.2.1) } Y)):=upS E;simp only[go_sem,U,A,];refine bC O ⟨rfl,rfl⟩ ⟨rfl,trivial⟩ (by grind[oG]) (fun j' ah=>?_);have aa:i8≠j':=aV J ah;have ae:F≠j':=aV A ah;generalize E:aH (aH _ Y none) j' _=HP;replace J:=kpB E aa (by omega) J;replace A:=kpB E ae (by omega) A;have ai:HP j'=some (Hq ((cM l.sheet k b D).times++[⟨g.1,eF g.1 s.start,0,false⟩])):=by rw[<-E,aB];(show some (⟨301,4,_⟩:Row)=some ⟨301,4,_⟩;rw[Xaw];rfl)
  clear E ah;simp only[go_sem,h2,h4,Z,X,af,U,aj,ai,J,A];refine cC aqE A ⟨by simp,rfl,by simp⟩ ?_;generalize E:aH _ F _=HP;replace J:=kpA E (by omega) J;replace ai:=kpA E (by omega) ai;replace A:HP F=some (gU (kH (W (eF g.1 s.start+s.service)) (W (W (nY l b+g.1)-D)) { cM l.sheet k b D with miles:=W ((cM l.sheet k b D).miles+g.2.1),times:=(cM l.sheet k b D).times++[⟨g.1,eF g.1 s.start,0,false⟩] } j')):=upS E;simp only[go_sem,h4,U,A,];apply aA <;> intro hd
  ·rw[if_pos (by grind)];simp only[go_sem,Z];refine aM J (by simp) ?_;simp only[go_sem,Z];exact .refl _
  ·rw[if_neg (by grind)];simp only[go_sem,Z,U,A];refine aM J ⟨by simp,rfl,Xae _⟩ ?_;simp only[go_sem,Z];have hm:=(oG l.sheet k b D).1;have:=fun H=>Se (H:=H) (j:=j') (l:=⟨W (eF g.1 s.start+s.service),W (W (nY l b+g.1)-D),{ cM l.sheet k b D with miles:=W ((cM l.sheet k b D).miles+g.2.1),times:=(cM l.sheet k b D).times++[⟨g.1,eF g.1 s.start,0,false⟩] }⟩)
   simp only[hm]at this |-;exact .tup [.agg (kH _ _ _ j'),int 0] _ (.cons _ _ _ _ (.agg _ _ (this _ ((aD _ _ _ _ aa.symm).trans ai))) (ConvL.refl _))
 ·have aw:k=st.length:=by omega
  have aj:((k:Int) == (st.length:Int))=true:=by grind
  have eS:nE x t st k l b=rZ x t (uE t st k) k l b:=by grind[nE]
  rw[eS];unfold rZ mL K8 goL;simp only[hD];generalize hg:fB x.net t.profile (uE t st k) t.dst D=g;simp only[go_sem,h2,h4,aj];refine aA (fun hb=>by simp at hb) (fun _=>?_);simp only[go_sem];refine kB ?_;simp only[go_sem,h2,h4,];refine⟨_,E.q rfl,?_⟩;simp only[go_sem,X,];refine⟨_,(apH x.net t.profile (uE t st k) t.dst D hn).q rfl,?_⟩;rw[hg];simp only[go_sem];apply aA <;> intro he
  ·simp only[go_sem,Z];refine aM J (by simp) ?_;simp only[go_sem,Z];rw[if_pos he];exact .refl _
  rw[if_neg (by grind)];simp only[go_sem,U,A];refine cC so3 A ⟨by simp,rfl,by simp⟩ ?_;generalize E:aH _ F _=HP;replace J:=kpA E (by omega) J;replace O:=kpA E (by omega) O;replace A:HP F=some (gU (kH 0 0 { cM l.sheet k b D with miles:=W ((cM l.sheet k b D).miles+g.2.1) } Y)):=upS E;simp only[go_sem,X,af,U,];refine cC so3 A ⟨by simp,rfl,by simp⟩ ?_;generalize E:aH _ F _=HP;replace J:=kpA E (by omega) J;replace O:=kpA E (by omega) O;replace A:HP F=some (gU (kH 0 (W (W (nY l b+g.1)-D)) { cM l.sheet k b D with miles:=W ((cM l.sheet k b D).miles+g.2.1) } Y)):=upS E;simp only[go_sem];refine aA (fun _=>?_) (fun hb=>by simp at hb);simp only[go_sem,h4,];apply aA <;> intro hw
  ·rw[if_pos (by grind)];simp only[go_sem,Z];refine aM J (by simp) ?_;simp only[go_sem,Z];exact .refl _
  rw[if_neg (by grind)];simp only[go_sem,U];refine cC so3 A ⟨by simp,rfl,by simp⟩ ?_;generalize E:aH _ F _=HP;replace J:=kpA E (by omega) J;replace O:=kpA E (by omega) O;replace A:HP F=some (gU (kH 0 (W (W (nY l b+g.1)-D)) { cM l.sheet k b D with miles:=W ((cM l.sheet k b D).miles+g.2.1),end_:=g.1 } Y)):=upS E;simp only[go_sem,U,];refine cC so3 A ⟨by simp,rfl,by simp⟩ ?_;generalize E:aH _ F _=HP;replace J:=kpA E (by omega) J;replace O:=kpA E (by omega) O;replace A:HP F=some (gU (kH g.1 (W (W (nY l b+g.1)-D)) { cM l.sheet k b D with miles:=W ((cM l.sheet k b D).miles+g.2.1),end_:=g.1 } Y)):=upS E;simp only[go_sem,h4,U,A,];apply aA <;> intro hd
  ·rw[if_pos (by grind)];simp only[go_sem,Z];refine aM J (by simp) ?_;simp only[go_sem,Z];exact .refl _
  ·rw[if_neg (by grind)];simp only[go_sem,Z,U,A];refine aM J ⟨by simp,rfl,Xae _⟩ ?_;simp only[go_sem,Z];have hm:=(oG l.sheet k b D).1;have:=fun H=>Se (H:=H) (j:=Y) (l:=⟨g.1,W (W (nY l b+g.1)-D),{ cM l.sheet k b D with miles:=W ((cM l.sheet k b D).miles+g.2.1),end_:=g.1 }⟩)
   simp only[hm]at this |-;exact .tup [.agg (kH _ _ _ Y),int 0] _ (.cons _ _ _ _ (.agg _ _ (this _ ((aD _ _ _ _ ab.symm).trans O))) (ConvL.refl _))
end Sq
namespace Sq
open Go.Proofs.Tryz
open Mv (bZ cL aR)
def Bu(x:Instance)(t:VType)(st:List Stop):List Bool->Nat->Lab->Except Int Lab
 | [],_,l=>.ok l
 | b::bs,k,l=>match nE x t st k l b with
   | .error e=>.error e
   | .ok l'=>Bu x t st bs (k+1) l'
def Fq(e:Except Int Lab):Sheet:=match e with| .ok l=>l.sheet| .error _=>aS
theorem NE{x:Instance}{t:VType}{st:List Stop}{k:Nat}{l:Lab}{b:Bool}{e:Int}(h:nE x t st k l b=.error e):e≠0:=by grind[nE,Ok,Oc]
def Hk{x:Instance}{t:VType}{st:List Stop}{k:Nat}{l l':Lab}{b:Bool}(E:k<st.length)(A:l.sheet.times.length=k)(h:nE x t st k l b=.ok l'):l'.sheet.times.length=k+1:=by grind[nE,pD,iV,oG]
def aAh(x:Instance)(t:VType)(r:Route)(st:List Stop)(bs:List Bool)(hn:NetOk x.net)(ai:st.length<=1048575)(hb:bs.length<=st.length+1):
  PC prog 130 [.agg (dC x t r st),.sl (bs.map fY)] (.tup [.agg (cH (Fq (Bu x t st bs 0 (eZ t r)))),int (GZ (Bu x t st bs 0 (eZ t r)))]):=by
 refine pcd func130 rfl rfl ?_;simp only[go_sem];refine fR fun i4 aa ag (E:aa i4=some (hY (cH aS))) N=>?_
 simp only[go_sem];refine aO (Uh x t r st) ?_;simp only[go_sem];refine aJ fun Y ac=>?_
 simp only[go_sem];refine bP ac (by simp[lV]) fun HGi6 (F:HGi6 Y=some (gU (dB (eZ t r)))) N=>?_
 replace E:=N E;obtain⟨U,E⟩:=E;simp only[go_sem];refine⟨fun ρ H=>∃(k:Nat) (l:Lab),k<=bs.length/\ρ 2=.rp (dC x t r st) 0/\ρ 4=.op i4 0 0/\ρ 6=.op Y 0 0/\ρ 13=.sl (bs.map fY)/\ρ 14=int bs.length/\ρ 15=int k/\H i4=some (hY (cH aS))/\H Y=some (gU (dB l))/\(k<=st.length->l.sheet.times.length=k)/\Bu x t st bs 0 (eZ t r)=Bu x t st (bs.drop k) k l,fun ρ _=>bs.length-aU (ρ 15),
  ⟨0,eZ t r,Xab _,rfl,rfl,rfl,rfl,rfl,by rfl,E,F,fun _=>rfl,rfl⟩,?_⟩
 rintro ρ H ⟨k,l,hk,h2,h4,h6,X,Z,J,E,F,hl,T⟩;simp only[go_sem,Z,J];refine aA (fun A=>?_) (fun O=>?_)
 ·have A:=bF A;obtain⟨b,ae⟩:=aI A;have b1:=inB A;rw[Ez ae,Bu]at T;simp only[go_sem,h2,h6,X,J,aC ae,b1,fY,F];refine aO (anE x t r st l k b hn (by omega) (by omega) (hl (by omega))) ?_;simp only[go_sem];refine aJ fun i9 ab=>?_
  simp only[go_sem];refine bP ab (by simp[lV]) fun HGi9 (R9:HGi9 i9=some (gU (dB (aqN (nE x t st k l b))))) N=>?_
  replace E:=(N E).2;replace F:=(N F).2;simp only[go_sem];cases hs:nE x t st k l b with
  | error e=>rw[hs]at T;have af:=NE hs;refine aA (fun _=>?_) (fun hb=>by simp[GZ]at hb;exact absurd hb af);simp only[go_sem,h4];refine aM E (by simp) ?_;simp only[go_sem,h4];rw[T];exact .refl _
  | ok l'=>rw[hs]at T R9;refine aA (fun hb=>by simp[GZ]at hb) (fun _=>?_);simp only[go_sem,h6,R9];refine aM F (by simp[lV]) ?_;generalize hP:aH _ Y _=HP;replace E:=kpA hP (by omega) E;replace F:HP Y=some (gU (dB l')):=upS hP;simp only[go_sem,h2,h4,h6,X,Z,J,aW k,F,E];exact⟨⟨k+1,l',A,rfl,rfl,fun ah=>Hk (by omega) (hl (by omega)) hs,T⟩,msr A⟩
 ·have O:=bG hk O;subst O;rw[Xca,Bu]at T;simp only[go_sem,h4,h6,F];refine aM E (by simp[fW]) ?_;simp only[go_sem,h4];rw[T];exact .refl _
def awN(l m:Lab):PC prog 178 [.agg (dB l),.agg (dB m)] (boo (yO l m)):=by refine pcd func178 rfl rfl ?_;simp only[go_sem];exact .refl _
def avW(l m:Lab):PC prog 177 [.agg (dB l),.rp (dB m) 0] (boo (yO l m)):=by refine pcd func177 rfl rfl ?_;simp only[go_sem];refine aO (awN l m) ?_;simp only[go_sem];exact .refl _
def Qj{g:Nat}{cap:List AV}{p:Lab->Bool}(l:List Lab)(hl:l.length<=4000000000000000000)(F:aF prog g=true)(Y:∀v∈l,PC prog g (.agg (dB v)::cap) (boo (p v))):
  PC prog 214 [.sl (l.map dB),.fn g cap] (int (uX p l 0)):=by
 refine pcd func214 rfl rfl ?_;simp only[go_sem];refine⟨fun ρ _=>∃k:Nat,k<=l.length/\ρ 0=.sl (l.map dB)/\ρ 1=.fn g cap/\ρ 7=int l.length/\ρ 8=int k/\∀u∈l.take k,p u=false,fun ρ _=>l.length-aU (ρ 8),⟨0,Xab _,rfl,rfl,rfl,rfl,by simp⟩,?_⟩;rintro ρ H ⟨k,Z,h0,h1,U,O,T⟩;simp only[go_sem,U,O];refine aA (fun A=>?_) (fun E=>?_)
 ·have A:=bF A;obtain⟨u,J⟩:=aI A;have b1:=inB A;simp only[go_sem,h0,h1,O,aC J,b1,F];refine aO (Y u (Xac J)) ?_;simp only[go_sem];apply aA <;> intro X
  ·simp only[go_sem]
   grind[bZ,nQ]
  ·simp only[go_sem,h0,h1,U,O,aW k];exact⟨⟨k+1,A,rfl,aR (p:=fun u=>p u=false) J X T⟩,msr A⟩
 ·have E:=bG Z E;subst E;rw[Xad]at T;simp only[go_sem]
  grind[bZ,lO]
def Iq{g:Nat}{cap:List AV}{p:Lab->Bool}(l:List Lab)(F:l.length<=4000000000000000000)(A:aF prog g=true)(E:∀v∈l,PC prog g (.agg (dB v)::cap) (boo (p v))):
  PC prog 176 [.sl (l.map dB),.fn g cap] (boo (l.any p)):=by
 refine pcd func176 rfl rfl ?_;simp only[go_sem];refine aO (Qj l F A E) ?_;simp only[go_sem];simp[cL,qS]
def pV(x:Instance)(t:VType)(st:List Stop)(k:Nat)(out:List Lab)(l:Lab)(bs:List Bool):List Lab:=(bs.map fun b=>nE x t st k l b).foldl xF out
def Km(x:Instance)(t:VType)(r:Route)(st:List Stop)(ls:List Lab)(k:Nat):List Lab:=ls.foldl (fun out l=>pV x t st k out l (eA r.rests k)) []
def aoI(out:List Lab)(e:Except Int Lab):(xF out e).length<=out.length+1:=by
 unfold xF
 grind
theorem H7(f:List Bool)(k:Nat):(eA f k).length<=2:=by grind[eA]
theorem Gk(x:Instance)(t:VType)(st:List Stop)(k:Nat)(l:Lab):∀(bs:List Bool) (out:List Lab),(pV x t st k out l bs).length<=out.length+bs.length
 | [],out=>by simp[pV]
 | b::bs,out=>by have:=Gk x t st k l bs (xF out (nE x t st k l b));have A:=aoI out (nE x t st k l b);simp only[pV,Xaq,Xbd,Xag]at this |-;omega
def Gf(x:Instance)(t:VType)(r:Route)(st:List Stop)(k:Nat):∀(A:List Lab) (out:List Lab),(A.foldl (fun out l=>pV x t st k out l (eA r.rests k)) out).length<=out.length+2*A.length
 | [],out=>by simp
 | l::A,out=>by
  have:=Gf x t r st k A (pV x t st k out l (eA r.rests k))
  grind[Gk,H7]
abbrev Ys(l:List Lab):Row:=⟨223,7,l.map dB⟩
def Jp:∀l:List Lab,cQ 7 (l.map dB)
 | []=>trivial
 | _::r=>⟨rfl,Jp r⟩
def JL:∀l:List Bool,cQ 1 (l.map fY)
 | []=>trivial
 | _::r=>⟨rfl,JL r⟩
def X9{x:Instance}{t:VType}{st:List Stop}{k m:Nat}{out:List Lab}{l:Lab}{bs:List Bool}{b:Bool}(h:bs[m]?=some b):pV x t st k out l (bs.take (m+1))=xF (pV x t st k out l (bs.take m)) (nE x t st k l b):=by simp_all[pV,aZ]
def aAf(x:Instance)(t:VType)(r:Route)(st:List Stop)(O:List Lab)(k:Nat)(hn:NetOk x.net)(az:st.length<=1048575)(hk:k<=st.length)(a5:O.length<=4194304)(hl:∀l∈O,l.sheet.times.length=k):
  PC prog 129 [.agg (dC x t r st),.sl (O.map dB),int k] (.sl ((Km x t r st O k).map dB)):=by
 refine pcb (fun t=>t == 8) func129 rfl rfl ?_;simp only[go_sem];refine bQ (fun af H'=>af 1=.sl (O.map dB)/\af 2=int k/\af 3=.rp (dC x t r st) 0/\af 7=.sl ((eA r.rests k).map fY)) ?_ fun K hK=>aA (fun Z=>?_) (fun Z=>?_)
 rotate_left
 ·have Z:k<r.rests.length:=by grind
  simp only[go_sem,aW k];refine⟨⟨by omega,JL _⟩,hK _ _ ⟨rfl,rfl,rfl,?_⟩⟩;simp only[go_sem];have:eA r.rests k=(r.rests.take (k+1)).drop k:=by
   obtain⟨c,hc⟩:=aI Z;unfold eA;rw[if_pos Z,aZ hc,List.drop_append_of_le_length (by grind),List.drop_of_length_le (by grind)]
   grind
  simp_all
 ·have Z:¬k<r.rests.length:=by grind
  simp only[go_sem];refine hK _ _ ⟨rfl,rfl,rfl,?_⟩;simp only[go_sem];unfold eA;rw[if_neg Z];rfl
 rintro ρ H ⟨h1,h2,h3,h7⟩;simp only[go_sem];refine aJ fun j0 ax=>?_
 simp only[go_sem,h1,];have aw:=H7 r.rests k;generalize hC:eA r.rests k=cs at *;refine⟨fun ρ H=>∃(n:Nat) (j:Nat),n<=O.length/\ρ 2=int k/\ρ 3=.rp (dC x t r st) 0/\ρ 7=.sl (cs.map fY)/\ρ 29=.sl (O.map dB)/\ρ 30=int O.length/\ρ 31=int n/\ρ 8=.os j/\H j=some (Ys ((O.take n).foldl (fun out l=>pV x t st k out l cs) [])),fun ρ _=>O.length-aU (ρ 31),
  ⟨0,j0,Xab _,h2,h3,h7,rfl,rfl,by rfl,rfl,aB _ _ _⟩,?_⟩
 rintro ρ H ⟨n,j,ar,h2,h3,h7,T,X,J,h8,R⟩;simp only[go_sem,X,J];refine aA (fun Y=>?_) (fun ak=>?_)
 ·have Y:=bF Y;obtain⟨l,am⟩:=aI Y;have b1:=inB Y;have au:=hl l (Xac am);have ay:((O.take n).foldl (fun out l=>pV x t st k out l cs) []).length<=2*n:=by
   have:=Gf x t r st k (O.take n) []
   grind
  have aq:(O.take (n+1)).foldl (fun out l=>pV x t st k out l cs) []=pV x t st k ((O.take n).foldl (fun out l=>pV x t st k out l cs) []) l cs:=nL am;generalize hO:(O.take n).foldl (fun out l=>pV x t st k out l cs) []=out0 at *;simp only[go_sem,T,J,aC am,b1];refine aJ fun ac al=>?_
  simp only[go_sem];refine bP al (by simp[lV]) fun aj (F:aj ac=some (gU (dB l))) N=>?_
  replace R:=N R;obtain⟨A,R⟩:=R;simp only[go_sem,h7,];refine⟨fun ρ H=>∃(m:Nat) (j:Nat),m<=cs.length/\ρ 2=int k/\ρ 3=.rp (dC x t r st) 0/\ρ 7=.sl (cs.map fY)/\ρ 10=.op ac 0 0/\ρ 29=.sl (O.map dB)/\ρ 30=int O.length/\ρ 31=int n/\ρ 35=.sl (cs.map fY)/\ρ 36=int cs.length/\ρ 37=int m/\ρ 8=.os j/\j≠ac/\H ac=some (gU (dB l))/\H j=some (Ys (pV x t st k out0 l (cs.take m))),fun ρ _=>cs.length-aU (ρ 37),
   ⟨0,j,Xab _,h2,h3,h7,rfl,T,X,J,rfl,rfl,by rfl,h8,A,F,R⟩,?_⟩
  rintro ρ H ⟨m,j,hm,h2,h3,h7,ah,T,X,J,ae,ag,ab,h8,A,F,R⟩;simp only[go_sem,ag,ab];refine aA (fun E=>?_) (fun aa=>?_)
  ·have E:=bF E;obtain⟨b,ao⟩:=aI E;have b2:=inB E;have a4:=Gk x t st k l (cs.take m) out0;have hf:=X9 (x:=x) (t:=t) (st:=st) (k:=k) (out:=out0) (l:=l) ao;have a0:(cs.take m).length<=2:=by grind
   simp only[go_sem,h2,h3,ah,ae,ab,aC ao,b2,fY,F];refine aO (anE x t r st l k b hn (by omega) hk au) ?_;simp only[go_sem];refine aJ fun av ai=>?_
   simp only[go_sem];refine bP ai (by simp[lV]) fun HGi13 (R13:HGi13 av=some (gU (dB (aqN (nE x t st k l b))))) N=>?_
   replace F:=(N F).2;replace R:=(N R).2;simp only[go_sem,h8,];generalize hF:pV x t st k out0 l (cs.take m)=out at *;cases hs:nE x t st k l b with
   | error e=>
    rw[hs]at hf R13;have ap:(e == 0)=false:=by grind[NE]
    refine⟨boo false,fun hg=>by grind[GZ],?_⟩;simp only[go_sem,GZ,ap];refine aA (fun Z=>by simp at Z) (fun _=>?_);simp only[go_sem,h2,h3,h7,ah,T,X,J,ae,ag,ab,h8,aW m];exact⟨⟨m+1,j,E,rfl,rfl,A,F,by rw[hf];exact R⟩,by grind[aN]⟩
   | ok l'=>
    rw[hs]at hf R13;refine⟨_,fun _=>.inl ⟨[.sl (out.map dB),.fn 177 [.rp (dB l') 0]],.cons _ _ _ _ (.row _ _ _ R (ConvE.refl _)) (.cons _ _ _ _ (.fn _ _ _ (.cons _ _ _ _ (.ptr _ _ _ _ _ R13 (by simp) (ConvL.refl _)) .nil)) .nil),Iq out (by omega) (by simp only[go_sem]) fun v _=>avW v l',rfl⟩,?_⟩;simp only[go_sem,GZ,];apply aA <;> intro Z
    ·have Z:(out.any fun v=>yO v l')=false:=by grind
     simp only[go_sem,h8,R13];refine bC R ⟨rfl,rfl⟩ ⟨rfl,trivial⟩ (by grind) (fun j' an=>?_);have U:ac≠j':=aV F an;simp only[go_sem,h2,h3,h7,ah,T,X,J,ae,ag,ab,aW m];refine⟨⟨m+1,j',E,rfl,rfl,U.symm,dF F A an,?_⟩,by grind[aN]⟩;have e1:xF out (.ok l')=out++[l']:=by
      show(if(out.any fun v=>yO v l')=true then out else out++[l'])=_
      grind
     rw[hf,e1];exact pB (l':=[l']) rfl
    ·have Z:(out.any fun v=>yO v l')=true:=by grind
     simp only[go_sem,h2,h3,h7,ah,T,X,J,ae,ag,ab,h8,aW m];refine⟨⟨m+1,j,E,rfl,rfl,A,F,?_⟩,by grind[aN]⟩;simp_all[xF]
  ·have aa:=bG hm aa;subst aa;rw[Xad]at R;simp only[go_sem,h2,h3,h7,T,X,J,h8,aW n];exact⟨⟨n+1,j,Y,rfl,rfl,by grind⟩,msr Y⟩
 ·have ak:=bG ar ak;subst ak;rw[Xad]at R;simp only[go_sem,h8];unfold Km;rw[hC];exact .row _ _ _ R (ConvE.refl _)
def dpP(x:Instance)(t:VType)(r:Route)(st:List Stop):Nat->List Lab
 | 0=>[eZ t r]
 | k+1=>Km x t r st (dpP x t r st k) k
def jX(b m:Lab):Lab:=if decide (m.sheet.end_<b.sheet.end_)=true then m else b
def uM(x:Instance)(t:VType)(r:Route):Sheet×Int:=match dpP x t r (fA x r.visits) (r.visits.length+1)with
 | []=>(Fq (Bu x t (fA x r.visits) (dE r) 0 (eZ t r)),GZ (Bu x t (fA x r.visits) (dE r) 0 (eZ t r)))
 | l0::ls=>((ls.foldl jX l0).sheet,0)
def gE(x:Instance)(r:Route):Sheet×Int:=
 if(!bW x r||decide ((r.rests.length:Int)>(r.visits.length:Int)+1))=true then(aS,2)else match x.types[r.type.toNat]? with
 | some t=>uM x t r
 | none=>(aS,2)
def alR{out:List Lab}{e:Except Int Lab}{m:Lab}(h:m∈xF out e):m∈out\/e=.ok m:=by
 unfold xF at h
 grind
theorem Nz{x:Instance}{t:VType}{st:List Stop}{k:Nat}{l m:Lab}:∀(bs:List Bool) (out:List Lab),m∈pV x t st k out l bs->m∈out\/∃b,nE x t st k l b=.ok m
 | [],out,h=>.inl h
 | b::bs,out,h=>by
  rcases Nz bs (xF out (nE x t st k l b)) h with h|h
  ·rcases alR h with h|h
   ·exact .inl h
   ·exact .inr ⟨b,h⟩
  ·exact .inr h
def MH{x:Instance}{t:VType}{r:Route}{st:List Stop}{k:Nat}{m:Lab}:∀(A:List Lab) (out:List Lab),m∈A.foldl (fun out l=>pV x t st k out l (eA r.rests k)) out->m∈out\/∃l∈A,∃b,nE x t st k l b=.ok m
 | [],out,h=>.inl h
 | l::A,out,h=>by
  rcases MH A _ h with h|⟨l',E,b,F⟩
  all_goals grind[Nz]
def NO{x:Instance}{t:VType}{r:Route}{st:List Stop}:∀(k:Nat),k<=st.length->∀l∈dpP x t r st k,l.sheet.times.length=k
 | 0,_,l,h=>by simp[dpP]at h;subst h;rfl
 | k+1,hk,l,h=>by
  rcases MH _ _ h with h|⟨l',A,b,E⟩
  ·simp at h
  ·exact Hk (by omega) (NO k (by omega) l' A) E
def aaQ(x:Instance)(t:VType)(r:Route)(st:List Stop):∀k:Nat,(dpP x t r st k).length<=2^k
 | 0=>by simp[dpP]
 | k+1=>by have h1:=Gf x t r st k (dpP x t r st k) [];have A:=aaQ x t r st k;rw[Nat.pow_succ];simp only[dpP,Km]at h1 |-;simp at h1;omega
def X6(x:Instance)(r:Route):∃E t' r' A,DA x r=(dC E t' r' A,bW x r)/\(bW x r=true->E=x/\r'=r/\A=fA x r.visits/\x.types[r.type.toNat]?=some t'):=by
 unfold DA;cases F:bW x r with
 | false=>grind
 | true=>have:=tH F;simp_all;grind
def azS(x:Instance)(r:Route)(hn:NetOk x.net)(hr:r.visits.length<=1048576):PC prog 81 [.agg (aE x),.agg (bM r)] (.tup [.agg (cH (gE x r).1),int (gE x r).2]):=by
 have w:IntKind.i64.wrap ((r.visits.length:Int)+1)=(r.visits.length:Int)+1:=bD (by omega);refine pcb (fun t=>t == 57) func81 rfl rfl ?_;simp only[go_sem];refine fR fun i4 am a4 (A:am i4=some (hY (cH aS))) N=>?_
 simp only[go_sem];refine aO (aAD x r hr) ?_;simp only[go_sem];obtain⟨x',t',r',ay,ax,aw⟩:=X6 x r;rw[ax];refine aJ fun i6 aq=>?_
 simp only[go_sem];refine bP aq (by simp[Hu]) fun an (T:an i6=some (A6 (dC x' t' r' ay))) N=>?_
 replace A:=(N A).2;simp only[go_sem,w,];apply aA <;> intro h1
 ·simp only[go_sem];refine aM A (by simp) ?_;simp only[go_sem];have e:gE x r=(aS,2):=by simp_all[gE]
  rw[e];exact .refl _
 have hp:bW x r=true:=by grind
 have az:r.rests.length<=r.visits.length+1:=by grind
 have a9:=tH hp;obtain⟨t,ht⟩:=aI (show r.type.toNat<x.types.length by omega);have a5:r.visits.length<=20:=by
  unfold bW at hp
  grind
 have eB:gE x r=uM x t r:=by simp_all[gE,if_neg]
 obtain⟨ex,er,es,Y⟩:=aw hp;rw[ex,er,es]at T;rw[ht]at Y;injection Y with Y;rw[<-Y]at T;rw[eB];have bb:(fA x r.visits).length=r.visits.length:=by simp[fA]
 have ar:=aaQ x t r (fA x r.visits);have av:=NO (x:=x) (t:=t) (r:=r) (st:=fA x r.visits);unfold uM;generalize hS:fA x r.visits=st at *;simp only[go_sem,T];refine aO (Uh x t r st) ?_;simp only[go_sem];refine⟨fun ρ H=>∃k:Nat,k<=r.visits.length+1/\ρ 3=.rp (bM r) 0/\ρ 4=.op i4 0 0/\ρ 6=.op i6 0 0/\ρ 8=int ((r.visits.length:Int)+1)/\ρ 38=int ((r.visits.length:Int)+1)/\ρ 39=int k/\ρ 9=.sl ((dpP x t r st k).map dB)/\H i4=some (hY (cH aS))/\H i6=some (A6 (dC x t r st)),fun ρ _=>r.visits.length+1-aU (ρ 39),
  ⟨0,Xab _,rfl,rfl,rfl,rfl,rfl,by rfl,by rfl,A,T⟩,?_⟩
 rintro ρ H ⟨k,hk,h3,Z,h6,h8,ap,af,h9,A,T⟩;simp only[go_sem,ap,af];refine aA (fun E=>?_) (fun J=>?_)
 ·have E:k<=r.visits.length:=by grind
  simp only[go_sem,h6,af,h9,T];have a8:2^k<=2^20:=Xas (by decide) (by omega);have:=ar k;refine aO (aAf x t r st (dpP x t r st k) k hn (by omega) (by omega) (by omega) (av k (by omega))) ?_;simp only[go_sem,h3,Z,h6,h8,ap,af,aW k];exact⟨⟨k+1,by omega,rfl,rfl,A,T⟩,by grind[aN]⟩
 have J:k=r.visits.length+1:=by grind
 subst J;simp only[go_sem,h9];cases hd:dpP x t r st (r.visits.length+1)with
 | nil=>
  rw[hd]at h9;refine aA (fun _=>?_) (fun hb=>by simp at hb);simp only[go_sem,h8];refine⟨⟨by omega,by omega⟩,aJ fun j hj=>?_⟩;simp only[go_sem,h3,];have au:(((r.visits.length:Int)+1)).toNat=r.visits.length+1:=by omega
  refine asQ aA8 (aB _ _ _) (.inl ⟨rfl,rfl,rfl⟩) (.inl rfl) rfl (JL _) ?_;have U:=aV A hj;have al:=aV T hj;generalize hG:aH (aH H j _) j _=H1;have Rj:H1 j=some (auR (dE r)):=by rw[<-hG,aB,au];exact congrArg (fun es=>some (⟨4,1,es⟩:Row)) (XC az)
  replace A:=(congrFun hG.symm i4).trans (axC A hj);replace T:=(congrFun hG.symm i6).trans (axC T hj);simp only[go_sem,h6,T];refine Mu rfl Rj fun Hr a7 hr=>?_
  replace A:=(hr i4 U).trans A;simp only[go_sem];refine aO (aAh x t r st (dE r) hn (by omega) (by simp_all[jU])) ?_;simp only[go_sem,Z,];refine aM A (by simp[fW]) ?_;simp only[go_sem,Z];exact .refl _
 | cons l0 ls=>
  rw[hd]at h9;have a6:=Jp (l0::ls);have ba:(l0::ls).length<=2^21:=by have:=ar (r.visits.length+1);rw[hd]at this;exact Xal this (Xas (by decide) (by omega))
  refine aA (fun hb=>by simp at hb;omega) (fun _=>?_);have b1:(0:Int)<=0/\(0:Int)<((l0::ls).length:Int):=⟨Xaz _,by simp⟩;simp only[go_sem,h9,b1];refine⟨by omega,?_⟩;refine aJ fun X ai=>?_
  simp only[go_sem];refine bP ai (by simp[lV]) fun ae (F:ae X=some (gU (dB l0))) N=>?_
  replace A:=N A;obtain⟨aj,A⟩:=A;simp only[go_sem,h9,];refine⟨⟨by omega,Jp ls⟩,?_⟩;refine⟨fun ρ H=>∃(m:Nat),m<=ls.length/\ρ 4=.op i4 0 0/\ρ 12=.op X 0 0/\ρ 65=.sl (ls.map dB)/\ρ 66=int ls.length/\ρ 67=int m/\H i4=some (hY (cH aS))/\H X=some (gU (dB ((ls.take m).foldl jX l0))),fun ρ _=>ls.length-aU (ρ 67),
   ⟨0,Xab _,Z,rfl,rfl,rfl,by rfl,A,F⟩,?_⟩
  rintro ρ H ⟨m,hm,Z,O,ah,ac,aa,A,F⟩;simp only[go_sem,ac,aa];refine aA (fun E=>?_) (fun J=>?_)
  ·have E:=bF E;obtain⟨l,ao⟩:=aI E;have b2:=inB E;have hf:(ls.take (m+1)).foldl jX l0=jX ((ls.take m).foldl jX l0) l:=nL ao;generalize (ls.take m).foldl jX l0=bl at *;simp only[go_sem,ah,aa,aC ao,b2];refine aJ fun a0 ab=>?_
   simp only[go_sem];refine bP ab (by simp[lV]) fun ag (ak:ag a0=some (gU (dB l))) N=>?_
   replace A:=(N A).2;replace F:=(N F).2;simp only[go_sem,O,ak,F];apply aA <;> intro hb
   ·simp only[go_sem,O,ak];refine aM F (by simp[lV]) ?_;generalize hP:aH _ X _=HP;replace A:=kpA hP (by omega) A;replace F:HP X=some (gU (dB l)):=upS hP;simp only[go_sem,Z,O,ah,ac,aa,qK (show m<=4611686018427387904 by grind),F,A];exact⟨⟨m+1,E,rfl,by simp_all[jX]⟩,msr E⟩
   ·simp only[go_sem,Z,O,ah,ac,aa,qK (show m<=4611686018427387904 by grind)];exact⟨⟨m+1,E,rfl,A,by simp_all[jX]⟩,msr E⟩
  ·have J:=bG hm J;subst J;rw[Xad]at F;simp only[go_sem,Z,O,F];refine aM A (by simp[fW]) ?_;simp only[go_sem,Z];exact .refl _
def pZ(p:Int×Int):List AV:=[int p.1,int p.2]
def At(m:List (Int×Int))(o:Int):Option Nat:=m.findIdx? fun p=>p.1 == o
def sH(m:List (Int×Int))(o:Int):Int:=((m.find? fun p=>p.1 == o).map (·.2)).getD 0
def Dk(m:List (Int×Int))(o v:Int):List (Int×Int):=match At m o with
 | some i=>m.set i (o,v)
 | none=>m++[(o,v)]
abbrev uB(m:List (Int×Int)):Row:=⟨0,2,m.map pZ⟩
def zX(o:Int):∀(m:List (Int×Int)) (i:Nat),xY (wI prog 3 (int o)) (m.map pZ) i=some ((At m o).map (·+i))
 | [],i=>rfl
 | p::m,i=>by
  have ih:=zX o m (i+1);have E:wI prog 3 (int o) ((pZ p).getD 0 .any)=some (o == p.1):=by rfl
  rw[Xaq,xY,E];unfold At at *;rw[List.findIdx?_cons];by_cases h:o=p.1
  ·grind
  ·have h1:(o == p.1)=false:=by grind
   have A:(p.1 == o)=false:=by grind
   rw[h1,A];simp only[Xbi,if_false];rw[ih];cases m.findIdx? (fun p=>p.1 == o)with
   | none=>rfl
   | some j=>grind
def kY(o:Int)(m:List (Int×Int)):xY (wI prog 3 (int o)) (m.map pZ) 0=some (At m o):=by simp[zX]
def mO(o:Int):rS prog 3 (int o)=true:=by rfl
def Ab(m:List (Int×Int))(o:Int):Pi false (int 0) (m.map pZ) (At m o)=int (sH m o):=by unfold Pi sH At;induction m<;>grind[pZ]
def BG(m:List (Int×Int))(o v:Int):adC (m.map pZ) (At m o) (int o) (int v)=(Dk m o v).map pZ:=by grind[adC,Dk,pZ,List.map_set]
def El(m:List (Int×Int))(o v q:Int):sH (Dk m o v) q=if q=o then v else sH m q:=by unfold sH Dk At;induction m<;>grind
def NV(a b:Int):PC prog 131 [int a,int b] (boo (a != -1&&a != b)):=by refine pcd func131 rfl rfl ?_;simp only[go_sem];exact .refl _
def T8(l:List Visit)(o:Int):Nat:=l.countP fun v=>v.order == o
def afW{l:List Visit}{k:Nat}{v:Visit}(h:l[k]?=some v)(o:Int):T8 (l.take (k+1)) o=T8 (l.take k) o+if v.order=o then 1 else 0:=by simp_all[T8,aZ]
def avP(l:List Visit)(k:Nat)(o:Int):T8 (l.take k) o<=l.length:=Xal List.countP_le_length (by grind)
def Wj{l:List Visit}{k:Nat}{v:Visit}(h:l[k]?=some v):gY l k=decide (T8 (l.take k) v.order=0):=by
 have T:=(List.getElem?_eq_some_iff.1 h).1;rw[Xar];simp only[decide_eq_true_eq];unfold gY T8;rw[List.countP_eq_zero,Xaj];constructor
 ·intro F u O;obtain⟨i,J,rfl⟩:=List.getElem_of_mem O;have A:i<k:=by grind
  have:=F i (Xai.2 A)
  grind[jQ]
 ·intro F i J;have A:=Xai.1 J;have E:i<l.length:=by omega
  rw[jQ h,jQ (List.getElem?_eq_getElem E)]
  grind[List.mem_take_iff_getElem]
def asF(x:Instance)(r:Route)(s:Sheet)(hr:r.visits.length<=1048576):PC prog 82 [.agg (aE x),.agg (bM r),.agg (cH s)] (.agg (bE (rL x r s))):=by
 refine pcd func82 rfl rfl ?_;simp only[go_sem];refine fR fun i6 ay a9 (F:ay i6=some (pW aX)) N=>?_
 simp only[go_sem];apply aA <;> intro h1
 . have h1:bS r.type x.types.length=true:=h1;simp only[go_sem];refine aM F (by simp) ?_;simp only[go_sem];have e:rL x r s=aX:=by simp_all[rL]
   rw[e];exact .refl _
 have h1:bS r.type x.types.length=false:=h1;have a6:0<=r.type/\r.type<(x.types.length:Int):=by grind
 obtain⟨t,ht⟩:=aI (show r.type.toNat<x.types.length by omega);have e:rL x r s=Qb x r s t:=by simp_all[rL]
 rw[e];simp only[go_sem,aC ht,a6];refine aJ fun i7 a0=>?_
 simp only[go_sem];refine bP a0 (by simp[lY]) fun ax (R7:ax i7=some (mZ t)) N=>?_
 replace F:=(N F).2;simp only[go_sem,R7];refine⟨by decide,?_⟩;refine aJ fun aa av=>?_
 simp only[go_sem];refine bP av (by simp) fun ai (E:ai aa=some (pW (A5 t s))) N=>?_
 replace F:=N F;obtain⟨am,F⟩:=F;simp only[go_sem];refine aJ fun jm az=>?_
 have af:=aV F az;have ae:=aV E az;generalize hG:aH ai jm _=HM;have O:HM jm=some (uB []):=by rw[<-hG,aB];rfl
 replace F:=(congrFun hG.symm i6).trans ((aD _ _ _ _ af).trans F);replace E:=(congrFun hG.symm aa).trans ((aD _ _ _ _ ae).trans E);simp only[go_sem];refine ⟨fun ρ H => ∃ (k : Nat) (m : List (Int × Int)), k <= r.visits.length /\ ρ 3 = .rp (aE x) 0 /\ ρ 4 = .rp (bM r) 0 /\ ρ 6 = .op i6 0 0 /\ ρ 10 = .op aa 0 0 /\ ρ 11 = .om jm /\ ρ 59 = .sl (r.visits.map aL) /\ ρ 60 = int r.visits.length /\ ρ 61 = int k /\ H i6 = some (pW aX) /\
     H aa=some (pW (((List.range r.visits.length).take k).foldl (dO x r) (A5 t s)))/\H jm=some (uB m)/\∀o,sH m o=(T8 (r.visits.take k) o:Nat),fun ρ _=>r.visits.length-aU (ρ 61),
   ⟨0,[],Xab _,rfl,rfl,rfl,rfl,rfl,rfl,rfl,by rfl,F,E,O,fun o=>rfl⟩,?_⟩
 rintro ρ H ⟨k,m,hk,h3,h4,h6,J,U,X,Y,T,F,E,O,hm⟩;simp only[go_sem,Y,T];refine aA (fun Z=>?_) (fun ap=>?_)
 . have Z:=bF Z;obtain⟨v,hv⟩:=aI Z;have b1:=inB Z;have hs:((List.range r.visits.length).take (k+1)).foldl (dO x r) (A5 t s)=dO x r (((List.range r.visits.length).take k).foldl (dO x r) (A5 t s)) k:=by simp_all[aZ]
   generalize hA:((List.range r.visits.length).take k).foldl (dO x r) (A5 t s)=A at E hs;have ev:cT r.visits k=v.order:=jQ hv;have bd:=Wj hv;have ba:=avP r.visits k v.order;have a4:=afW hv;have bc:=hm v.order;have wm:IntKind.i64.wrap (sH m v.order+1)=sH m v.order+1:=bD (by omega);simp only[go_sem,X,T,aC hv,b1];refine aJ fun a8 ah=>?_
   simp only[go_sem,h3,h4,h6,J,U,X,Y,T,F,E,O];refine bP ah (by simp[dJ]) fun ar (ag:ar a8=some (⟨123,2,[aL v]⟩)) N=>?_
   replace F:=(N F).2;replace E:=(N E).2;replace O:=N O;obtain⟨aq,O⟩:=O;clear N ah;simp only[go_sem,h3,h4,h6,J,U,X,Y,T,ag,F,E,O];refine Aj O DF (mO _) (kY _ _) zv3 ?_;rw[Ab];simp only[go_sem,h3,h4,h6,J,U,X,Y,T,ag,wm];refine I4 O DF (mO _) (kY _ _) ?_;rw[BG];generalize hP:aH _ jm _=HP;replace F:=kpA hP (by omega) F;replace E:=kpA hP (by omega) E;replace ag:=kpA hP (by omega) ag;replace O:HP jm=some (uB (Dk m v.order (sH m v.order+1))):=by rw[<-hP,aB];skip
   simp only[go_sem,h3,U,ag];have ao:∀o,sH (Dk m v.order (sH m v.order+1)) o=(T8 (r.visits.take (k+1)) o:Nat):=fun o=>by
     rw[El,a4 o,hm o,hm v.order]
     grind
   refine Aj O DF (mO _) (kY _ _) zv3 ?_;rw[Ab,El,if_pos rfl];have aj:(bS v.order x.orders.length||decide (sH m v.order+1>1))=(bS v.order x.orders.length|| !gY r.visits k):=by grind
   simp only[go_sem];apply aA <;> intro hb
   . have aw:(bS v.order x.orders.length|| !gY r.visits k)=true:=aj▸hb;have e:dO x r A k=A:=by simp_all[dO]
     simp only[go_sem,h3,h4,h6,J,U,X,Y,T,aW k];exact⟨⟨k+1,_,Z,rfl,F,by grind,O,ao⟩,msr Z⟩
   have aw:(bS v.order x.orders.length|| !gY r.visits k)=false:=aj▸hb;have bb:bS v.order x.orders.length=false:=(Xam.1 aw).1;have a7:0<=v.order/\v.order<(x.orders.length:Int):=by grind
   obtain⟨o,ho⟩:=aI (show v.order.toNat<x.orders.length by omega);have e:dO x r A k=FX o r.type (Ib o r.type A):=by simp_all[dO]
   rw[e]at hs;simp only[go_sem,h3,ag,aC ho,a7];refine aJ fun au al=>?_
   simp only[go_sem];refine bP al (by simp[lX]) fun an (ab:an au=some (nR o)) N=>?_
   replace F:=(N F).2;replace E:=N E;obtain⟨ak,E⟩:=E;replace O:=(N O).2;simp only[go_sem,h4,ab,];refine aO (NV o.now r.type) ?_;simp only[go_sem];refine bQ (fun ac H'=>ac 3=.rp (aE x) 0/\ac 4=.rp (bM r) 0/\ac 6=.op i6 0 0/\ac 10=.op aa 0 0/\ac 11=.om jm/\ac 14=.op au 0 0/\ac 59=.sl (r.visits.map aL)/\ac 60=int r.visits.length/\ac 61=int k/\H' i6=some (pW aX)/\H' au=some (nR o)/\H' jm=some (uB (Dk m v.order (sH m v.order+1)))/\H' aa=some (pW (Ib o r.type A))) ?_ fun K hK=>aA (fun hb=>?_) (fun hb=>?_)
   rotate_left
   . simp only[go_sem,J,E];refine cC so3 E ⟨by simp,rfl,by simp⟩ ?_;generalize hP:aH _ aa _=HP;replace F:=kpA hP (by omega) F;replace ab:=kpA hP (by omega) ab;replace O:=kpA hP (by omega) O;replace E:HP aa=some (pW (Ib o r.type A)):=by rw[<-hP,aB];(rw[Ib,if_pos (show Wf o r.type=true from hb)];rfl)
     simp only[go_sem];exact hK _ _ ⟨h3,h4,h6,J,U,rfl,X,Y,T,F,ab,O,E⟩
   . simp only[go_sem];refine hK _ _ ⟨h3,h4,h6,J,U,rfl,X,Y,T,F,ab,O,?_⟩;simp_all[Ib,if_neg,Wf]
   rintro ρ H ⟨h3,h4,h6,J,U,a5,X,Y,T,F,ab,O,E⟩;simp only[go_sem,h4,a5,ab];refine aO (NV o.last r.type) ?_;simp only[go_sem];apply aA <;> intro hb
   . simp only[go_sem,J,E];refine cC so3 E ⟨by simp,rfl,by simp⟩ ?_;generalize hP:aH _ aa _=HP;replace F:=kpA hP (by omega) F;replace ab:=kpA hP (by omega) ab;replace O:=kpA hP (by omega) O;replace E:HP aa=some (pW (FX o r.type (Ib o r.type A))):=by rw[<-hP,aB];(rw[FX,if_pos (show Wy o r.type=true from hb)];rfl)
     simp only[go_sem,h3,h4,h6,J,U,X,Y,T,aW k,E,F,O];exact⟨⟨k+1,Dk m v.order (sH m v.order+1),Z,rfl,by rw[hs],rfl,ao⟩,msr Z⟩
   . simp only[go_sem,h3,h4,h6,J,U,X,Y,T,aW k];exact⟨⟨k+1,_,Z,rfl,F,by simp_all[FX,Wy],O,ao⟩,msr Z⟩
 . have ap:=bG hk ap;subst ap;rw[Xbb (by simp)]at E;simp only[go_sem,h6,J,E];refine aM F (by simp[cE]) ?_;simp only[go_sem,h6];exact .refl _
def Aq(x:Instance)(r:Route)(v:Visit):Bool:=match x.types[r.type.toNat]?,x.orders[v.order.toNat]? with
 | some t,some o=>xH t.skills o.skills
 | _,_=>false
def Dr(x:Instance)(r:Route):Int:=if(r.visits.any fun v=> !Aq x r v)=true then 18 else 0
def auH(x:Instance)(r:Route)(hr:r.visits.length<=1048576)(Y:0<=r.type/\r.type<(x.types.length:Int))(U:∀v∈r.visits,0<=v.order/\v.order<(x.orders.length:Int)):
  PC prog 79 [.agg (aE x),.agg (bM r)] (int (Dr x r)):=by
 obtain⟨t,ht⟩:=aI (show r.type.toNat<x.types.length by omega);refine pcd func79 rfl rfl ?_;simp only[go_sem];refine⟨fun ρ _=>∃k:Nat,k<=r.visits.length/\ρ 2=.rp (aE x) 0/\ρ 3=.rp (bM r) 0/\ρ 8=.sl (r.visits.map aL)/\ρ 9=int r.visits.length/\ρ 10=int k/\∀v∈r.visits.take k,(!Aq x r v)=false,fun ρ _=>r.visits.length-aU (ρ 10),⟨0,Xab _,rfl,rfl,rfl,rfl,rfl,by simp⟩,?_⟩;rintro ρ H ⟨k,hk,T,h3,h8,h9,E,hz⟩;simp only[go_sem,h9,E];refine aA (fun A=>?_) (fun J=>?_)
 ·have A:=bF A;obtain⟨v,Z⟩:=aI A;have b1:=inB A;have aa:=U v (Xac Z);obtain⟨o,ho⟩:=aI (show v.order.toNat<x.orders.length by omega);have es:Aq x r v=xH t.skills o.skills:=by grind[Aq]
  simp only[go_sem,h8,E,aC Z,b1];refine aJ fun X F=>?_
  simp only[go_sem,T,h3,h8,h9,E];refine bP F (by simp[dJ]) fun O (R6:O X=some (⟨123,2,[aL v]⟩)) N=>?_
  clear N F;simp only[go_sem];refine jI [X] [(0,true),(1,true),(2,true),(3,true),(4,true),(5,true),(6,true),(7,true),(8,true),(9,true),(10,true),(11,true),(12,true),(13,true),(14,true)] (by grind) (by kernel_rfl) fun Hp Hr hp ac _ ab=>?_
  have P6:=(hp X (by simp)).trans R6;simp only[go_sem,T,h3,P6,aC ht,Y,aC ho,aa];refine⟨_,(aAd t o.skills).q rfl,?_⟩;simp only[go_sem];refine fF fun _ Hm _ _=>?_
  simp only[go_sem];apply aA <;> intro hb
  ·simp only[go_sem];exact bZ (by unfold Dr;grind)
  ·simp only[go_sem,T,h3,h8,h9,E,aW k];exact⟨⟨k+1,A,rfl,aR (p:=fun v=>(!Aq x r v)=false) Z (by grind) hz⟩,msr A⟩
 ·have J:=bG hk J;subst J;rw[Xad]at hz;simp only[go_sem];simp_all[bZ,Dr]
def cG(x:Instance)(r:Route):Sheet×Score×Int:=
 if bS r.type x.types.length=true then(aS,aX,2)
 else if(oF x r.visits != 0)=true then(aS,aX,oF x r.visits)
 else if(Dr x r != 0)=true then(aS,aX,Dr x r)
 else if(Bj x r != 0)=true then(aS,aX,Bj x r)
 else if((gE x r).2 != 0)=true then(aS,aX,(gE x r).2)
 else((gE x r).1,rL x r (gE x r).1,0)
structure EvalB(x:Instance):Prop where
 net:NetOk x.net
 load:LoadB x
 apart:x.apart.length<=1048576
 before:x.before.length<=1048576
abbrev fnsL:List (List AV):=[[.v (.func (.func 78) #[] #[])],[.v (.func (.func 79) #[] #[])],[.v (.func (.func 80) #[] #[])]]
def DV(x:Instance)(r:Route)(hx:EvalB x)(hr:r.visits.length<=1048575):PC prog 43 [.agg (aE x),.agg (bM r)] (.tup [.agg (cH (cG x r).1),.agg (bE (cG x r).2.1),int (cG x r).2.2]):=by
 refine pcd func43 rfl rfl ?_;simp only[go_sem];refine fR fun J aj ap (A:aj J=some (hY (cH aS))) N=>?_
 simp only[go_sem];refine fR fun O ag ao (E:ag O=some (pW aX)) N=>?_
 replace A:=N A;obtain⟨af,A⟩:=A;simp only[go_sem];apply aA <;> intro h1
 ·have h1:bS r.type x.types.length=true:=h1;simp only[go_sem];refine aM A (by simp) ?_;generalize F:aH _ J _=HP;replace E:=kpA F (by omega) E;replace A:HP J=some (hY (cH aS)):=upS F;simp only[go_sem];refine aM E (by simp) ?_;generalize F:aH _ O _=HP;replace A:=kpA F (by omega) A;replace E:HP O=some (pW aX):=upS F;simp only[go_sem,E,A];have e:cG x r=(aS,aX,2):=by simp_all[cG]
  rw[e];exact .refl _
 have c1:¬bS r.type x.types.length=true:=by grind[bS]
 have an:0<=r.type/\r.type<(x.types.length:Int):=by grind
 simp only[go_sem];refine⟨fun ρ H=>∃(k:Nat),k<=3/\ρ 2=.rp (aE x) 0/\ρ 3=.rp (bM r) 0/\ρ 4=.op J 0 0/\ρ 5=.op O 0 0/\ρ 25=.sl fnsL/\ρ 26=int 3/\ρ 27=int k/\H J=some (hY (cH aS))/\H O=some (pW aX)/\(0<k->oF x r.visits=0)/\(1<k->Dr x r=0)/\(2<k->Bj x r=0),fun ρ _=>3-aU (ρ 27),
  ⟨0,Xab _,rfl,rfl,rfl,rfl,rfl,by rfl,by rfl,A,E,fun h=>absurd h (by decide),fun h=>absurd h (by decide),fun h=>absurd h (by decide)⟩,?_⟩
 rintro ρ H ⟨k,hk,h2,h3,U,Y,X,Z,T,A,E,q1,q2,q3⟩;simp only[go_sem,Z,T];refine aA (fun al=>?_) (fun ah=>?_)
 ·have al:k<3:=by grind
  have hc:k=0\/k=1\/k=2:=by omega
  rcases hc with rfl|rfl|rfl
  ·simp only[go_sem,h2,h3,X,T];refine⟨by decide,PC.use (Kq x r (by omega) hx.apart hx.before) ?_⟩;simp only[go_sem];apply aA <;> intro hb
   ·have e:cG x r=(aS,aX,oF x r.visits):=by simp_all[cG]
    simp only[go_sem,U,];refine aM A (by simp) ?_;generalize F:aH _ J _=HP;replace E:=kpA F (by omega) E;replace A:HP J=some (hY (cH aS)):=upS F;simp only[go_sem,Y,];refine aM E (by simp) ?_;generalize F:aH _ O _=HP;replace A:=kpA F (by omega) A;replace E:HP O=some (pW aX):=upS F;simp only[go_sem,U,Y,E,A];rw[e];exact .refl _
   ·simp only[go_sem,h2,h3,U,Y,X,Z,T];exact⟨⟨1,by decide,rfl,A,E,fun _=>by grind,fun h=>absurd h (by decide),fun h=>absurd h (by decide)⟩,by simp only[aN];decide⟩
  ·simp only[go_sem,h2,h3,X,T];refine⟨by decide,PC.use (auH x r (by omega) an (ahW (q1 (by decide)))) ?_⟩;simp only[go_sem];apply aA <;> intro hb
   ·have e:cG x r=(aS,aX,Dr x r):=by simp_all[cG]
    simp only[go_sem,U,];refine aM A (by simp) ?_;generalize F:aH _ J _=HP;replace E:=kpA F (by omega) E;replace A:HP J=some (hY (cH aS)):=upS F;simp only[go_sem,Y,];refine aM E (by simp) ?_;generalize F:aH _ O _=HP;replace A:=kpA F (by omega) A;replace E:HP O=some (pW aX):=upS F;simp only[go_sem,U,Y,E,A];rw[e];exact .refl _
   ·simp only[go_sem,h2,h3,U,Y,X,Z,T];exact⟨⟨2,by decide,rfl,A,E,fun _=>q1 (by decide),fun _=>by grind,fun h=>absurd h (by decide)⟩,by simp only[aN];decide⟩
  ·simp only[go_sem,h2,h3,X,T];refine⟨by decide,PC.use (awW x r hx.load hr hx.apart hx.before) ?_⟩;simp only[go_sem];apply aA <;> intro hb
   ·have e:cG x r=(aS,aX,Bj x r):=by simp_all[cG]
    simp only[go_sem,U,];refine aM A (by simp) ?_;generalize F:aH _ J _=HP;replace E:=kpA F (by omega) E;replace A:HP J=some (hY (cH aS)):=upS F;simp only[go_sem,Y,];refine aM E (by simp) ?_;generalize F:aH _ O _=HP;replace A:=kpA F (by omega) A;replace E:HP O=some (pW aX):=upS F;simp only[go_sem,U,Y,E,A];rw[e];exact .refl _
   ·simp only[go_sem,h2,h3,U,Y,X,Z,T];exact⟨⟨3,by decide,rfl,A,E,fun _=>q1 (by decide),fun _=>q2 (by decide),fun _=>by grind⟩,by simp only[aN];decide⟩
 have ah:k=3:=by grind
 subst ah;have e1:=q1 (by decide);have e2:=q2 (by decide);have e3:=q3 (by decide);have eE:cG x r=if((gE x r).2 != 0)=true then(aS,aX,(gE x r).2)else((gE x r).1,rL x r (gE x r).1,0):=by simp_all[cG]
 rw[eE];simp only[go_sem,h2,h3,];refine aO (azS x r hx.net (by omega)) ?_;simp only[go_sem];refine aJ fun ac ae=>?_
 simp only[go_sem];refine bP ae (by simp[fW]) fun HGi10 (R10:HGi10 ac=some (hY (cH (gE x r).1))) N=>?_
 replace A:=N A;obtain⟨aa,A⟩:=A;replace E:=N E;obtain⟨ab,E⟩:=E;simp only[go_sem];apply aA <;> intro hb
 ·rw[if_pos hb];simp only[go_sem,U];refine aM A (by simp) ?_;generalize F:aH _ J _=HP;replace E:=kpA F (by omega) E;replace A:HP J=some (hY (cH aS)):=upS F;simp only[go_sem,Y,];refine aM E (by simp) ?_;generalize F:aH _ O _=HP;replace A:=kpA F (by omega) A;replace E:HP O=some (pW aX):=upS F;simp only[go_sem,U,Y,E,A];exact .refl _
 ·rw[if_neg (by grind)];simp only[go_sem];refine jI [ac] [(0,true),(1,true),(2,true),(3,true),(4,true),(5,false),(6,false),(7,false)] (by grind) (by kernel_rfl) fun Hp Hr hp ai _ aq=>?_
  have am:=(hp ac (by simp)).trans R10;have P4:=(ai J (by grind)).trans A;have P5:=(ai O (by grind)).trans E;simp only[go_sem,h2,h3,am];refine⟨_,(asF x r (gE x r).1 (by omega)).q rfl,?_⟩;simp only[go_sem,U,];refine aM P4 (by simp[fW]) ?_;generalize F:aH _ J _=HP;replace P5:=kpA F (by omega) P5;replace P4:HP J=some (hY (cH (gE x r).1)):=upS F;simp only[go_sem,Y,];refine aM P5 (by simp[cE]) ?_;generalize F:aH _ O _=HP;replace P4:=kpA F (by omega) P4;replace P5:HP O=some (pW (rL x r (gE x r).1)):=upS F;simp only[go_sem];refine fF fun _ Hm _ ak=>?_
  have M4:=(ak J (by grind)).trans P4;have M5:=(ak O (by grind)).trans P5;simp only[go_sem,U,Y,M4,M5];exact .refl _
def auV(x:Instance)(r:Route)(hx:EvalB x)(hr:r.visits.length<=1048575):PC prog 29 [.agg (aE x),.agg (bM r)] (int (cG x r).2.2):=by
 refine pcd func29 rfl rfl ?_;simp only[go_sem];refine aO (DV x r hx hr) ?_;simp only[go_sem];refine fR fun Y T X (A:T Y=some (hY (cH aS))) N=>?_
 clear N X;simp only[go_sem,A];refine fR fun Z O U (E:O Z=some (pW aX)) N=>?_
 replace A:=N A;obtain⟨J,A⟩:=A;clear N U;simp only[go_sem,E,A];refine aM A (by simp[fW]) ?_;generalize F:aH _ Y _=HP;replace E:=kpA F (by omega) E;replace A:HP Y=some (hY (cH (cG x r).1)):=upS F;clear F;simp only[go_sem,A,E];refine aM E (by simp[cE]) ?_;generalize F:aH _ Z _=HP;replace A:=kpA F (by omega) A;replace E:HP Z=some (pW (cG x r).2.1):=upS F;clear F;simp only[go_sem,E,A];exact .refl _
end Sq
namespace Sq
open Mv (bZ cL aR)
end Sq
namespace Sq
open Mv (aR)
open Mv (bZ cL aR)
theorem ZN(x:Instance):gL x=gX x.types:=by
 unfold gL gX
 grind
section
variable{x:Instance}(h:Acc x)
include h
theorem _root_.Go.Proofs.YthephioccidfgaaGreatDoor.Acc.dims:1<=gL x/\gL x<=3:=by rw[ZN];have h1:=h.types;obtain⟨t,A⟩:=aI (show 0<x.types.length by omega);have:=arJ (h.type t (Xac A)).cap;omega
theorem _root_.Go.Proofs.YthephioccidfgaaGreatDoor.Acc.loadB:LoadB x:=⟨by have:=h.dims;omega,fun o A=>by
 have:=(XI (h.order o A).load).1
 grind[ZN],by have:=h.orders;omega⟩
end
theorem tN{l:List Point}{i:Nat}(h:i<l.length):eI l i∈l:=by simp_all[fG]
theorem QM{p:Point}{t:Int}(E:0<=p.t/\p.t<=4096/\p.t<=p.a/\p.a<=p.t+4096)(A:0<=t/\t<=12288):0<=AY p t/\AY p t<=100000000:=by grind[AY,dQ]
theorem ahS{p q:Point}{t:Int}(U:0<=p.t/\p.t<=4096/\p.t<=p.a/\p.a<=p.t+4096)(O:0<=q.t/\q.t<=4096/\q.t<=q.a/\q.a<=q.t+4096)(Z:p.a<=q.a)(h1:p.t<=t)(T:t<q.t):0<=ID p q t/\ID p q t<=100000000:=by
 unfold ID;have J:0<=t-p.t/\t-p.t<=4096:=by omega
 have F:0<=q.a-p.a/\q.a-p.a<=8192:=by omega
 have E:0<=(t-p.t)*(q.a-p.a):=Int.mul_nonneg J.1 F.1;have A:(t-p.t)*(q.a-p.a)<=4096*8192:=Int.mul_le_mul J.2 F.2 F.1 (by omega);rw[dQ (n:=t-p.t) (by omega),dQ (n:=q.a-p.a) (by omega),dQ (n:=(t-p.t)*(q.a-p.a)) (by omega),dQ (n:=q.t-p.t) (by omega)];generalize (t-p.t)*(q.a-p.a)=m at E A;rw[dQ (n:=m+q.t) (by omega),dQ (n:=m+q.t-p.t) (by omega),dQ (n:=m+q.t-p.t-1) (by omega),Xcf (by omega)];have Y:0<=(m+q.t-p.t-1)/(q.t-p.t):=Int.ediv_nonneg (by omega) (by omega);have X:(m+q.t-p.t-1)/(q.t-p.t)<=m+q.t-p.t-1:=Int.ediv_le_self _ (by omega);have e:IntKind.i64.wrap ((m+q.t-p.t-1)/(q.t-p.t))=(m+q.t-p.t-1)/(q.t-p.t):=dQ (by omega)
 grind[dQ]
theorem aaE{l:List Point}{t:Int}(h:jY l=[])(F:0<=t/\t<=12288):0<=kU l t/\kU l t<=100000000:=by
 have A:=Qi h;have T:=A.len;unfold kU;split
 ·omega
 ·split
  ·rename_i k J;have E:=List.find?_some J;have O:=Xai.1 (List.mem_of_find?_eq_some J);simp only[rW,Xah,decide_eq_true_eq]at E;have:=A.mono k (by omega);exact ahS (A.pt _ (tN (by omega))) (A.pt _ (tN (by omega))) this.2 E.1 E.2
  ·split
   ·exact QM (A.pt _ (tN (by omega))) F
   ·exact QM (A.pt _ (tN (by omega))) F
theorem SX{t:Int}:∀(l:List Point) (s B:Int),(∀p∈l,0<=p.a/\p.a<=4096)->0<=s/\s<=B->B+4096*l.length<=1000000000000->0<=l.foldl (rA t) s/\l.foldl (rA t) s<=B+4096*l.length
 | [],s,B,_,hs,_=>by grind
 | p::l,s,B,hp,hs,hB=>by
  have h1:=hp p (by simp);simp only[Xag,Xbd]at hB |-;have e:0<=rA t s p/\rA t s p<=B+4096:=by grind[rA,dQ]
  have:=SX (t:=t) l (rA t s p) (B+4096) (fun q A=>hp q (by grind)) e (by omega);omega
theorem U0{a:Arc}{t:Int}(h:ArcOk a)(E:0<=t/\t<=12288):0<=tL a t/\tL a t<=1000000000:=by
 have h1:=aaE h.travel E;have F:=h.slow;have:=SX (t:=t) a.slow _ 100000000 (fun p A=>(h.pt p A).2) h1 (by omega)
 grind[tL]
theorem WU{s:Stop}(h:jM s=0)(E:0<=s.place):StopB s/\s.start<=s.close:=by
 unfold jM at h;split at h
 ·simp_all[Go.Proofs.YthephioccidfgaaGreatDoor.mJ]
 ·split at h
  ·cases h
  ·rename_i A;simp only[PA,Xbu,Xam,decide_eq_false_iff_not]at A;exact⟨⟨by omega,by omega,by omega,by omega⟩,by omega⟩
section
variable{x:Instance}(h:Acc x)
include h
theorem _root_.Go.Proofs.YthephioccidfgaaGreatDoor.Acc.go{t:VType}(J:t∈x.types):GoB x t:=by
 have A:=h.type t J;have U:=A.start;have h3:=A.close;have O:=A.drive;refine⟨fun p q d E F=>?_,A.rest,h3,O.2⟩;unfold fB at F |-;split
 ·simp
 ·split
  ·omega
  ·cases T:sS x.net t.profile p q with
   | none=>simp
   | some a=>exact(U0 (h.arc a (List.mem_of_find?_eq_some T)) E).1
theorem _root_.Go.Proofs.YthephioccidfgaaGreatDoor.Acc.stop{v:Visit}(A:(bI x v).2=true):StopB (bI x v).1/\(bI x v).1.start<=(bI x v).1.close:=by
 unfold bI at A |-;split
 ·grind
 ·rename_i J;rw[if_neg J]at A;cases F:x.orders[v.order.toNat]? with
  | none=>grind
  | some o=>
   rw[F]at A;have O:0<=(xK o v).place:=by grind
   have E:=h.order o (Xac F);refine WU ?_ O;show jM (xK o v)=0;unfold xK;cases v.drop
   ·exact E.wpick
   ·exact E.wdrop
theorem _root_.Go.Proofs.YthephioccidfgaaGreatDoor.Acc.route{r:Route}{t:VType}(A:bW x r=true)(J:x.types[r.type.toNat]?=some t):RouteB x t r/\∀v∈r.visits,(bI x v).1.start<=(bI x v).1.close:=by
 unfold bW at A;simp only[Xah,Xau,Xam,decide_eq_false_iff_not]at A;have O:∀v∈r.visits,(bI x v).2=true:=Xaj.1 A.2;have F:=h.type t (Xac J);have T:=F.start;have h3:=F.close;refine⟨⟨h.go (Xac J),fun v E=>(h.stop (O v E)).1,⟨?_,by show -(12288*((0:Nat):Int))<=0/\(0:Int)<=4096;omega⟩,by omega⟩,fun v E=>(h.stop (O v E)).2⟩
 grind[eZ,eF]
end
theorem avX(x:Instance)(t:VType)(r:Route)(k:Nat)(A:k<=r.visits.length):uE t (fA x r.visits) k=eT x t r k:=by cases k<;>grind[uE,eT,fA]
theorem akO(x:Instance)(t:VType)(r:Route)(k:Nat)(A:k<=r.visits.length)(l:Lab)(b:Bool):nE x t (fA x r.visits) k l b=fP x t r k l b:=by grind[nE,fP,avX,fA]
theorem NJ(x:Instance)(t:VType)(r:Route):∀(bs:List Bool) (k:Nat) (l:Lab),bs.length+k<=r.visits.length+1->Bu x t (fA x r.visits) bs k l=jL x t r bs k l
 | [],k,l,_=>rfl
 | b::bs,k,l,h=>by
  simp only[Xag]at h;unfold Bu jL;rw[akO x t r k (by omega)];cases fP x t r k l b with
  | error e=>rfl
  | ok l'=>exact NJ x t r bs (k+1) l' (by omega)
theorem aAm(x:Instance)(t:VType)(r:Route)(k:Nat)(E:k<=r.visits.length)(A:List Lab):Km x t r (fA x r.visits) A k=Cn x t r A k:=by grind[Km,Cn,List.foldl_flatMap,pV,List.map_congr_left,akO]
theorem akB(x:Instance)(t:VType)(r:Route):∀k:Nat,k<=r.visits.length+1->dpP x t r (fA x r.visits) k=dpL x t r k
 | 0,_=>rfl
 | k+1,h=>by show Km x t r _ _ k=Cn x t r _ k;rw[aAm x t r k (by omega),akB x t r k (by omega)]
theorem _root_.Go.Proofs.YthephioccidfgaaGreatDoor.Acc.best{x:Instance}(h:Acc x)(r:Route):(gE x r).2=(uC x r).2:=by
 unfold gE;split
 ·simp_all[uC]
 ·rename_i X;have A:bW x r=true/\(r.rests.length:Int)<=(r.visits.length:Int)+1:=by grind
  obtain⟨J,O⟩:=A;have F:∃t,x.types[r.type.toNat]?=some t:=by simp_all[bW,bS]
  obtain⟨t,E⟩:=F;rw[E];show(uM x t r).2=_;obtain⟨U,T⟩:=h.route J E;have O:r.rests.length<=r.visits.length+1:=by omega
  rw[auM U J E O T];unfold uM;rw[akB x t r _ (Xae _)]
  grind[NJ,jU]
theorem zT{α:Type}(p:α->Bool)(l:List α):((∀y∈l,p y=false)/\uX p l 0= -1)\/∃(k:Nat) (x:α),l[k]?=some x/\p x=true/\(∀y∈l.take k,p y=false)/\uX p l 0=k:=by
 by_cases h:l.any p=true
 ·right;have A:l.findIdx p<l.length:=List.findIdx_lt_length_of_exists (by grind);refine⟨l.findIdx p,l[l.findIdx p],List.getElem?_eq_getElem A,List.findIdx_getElem,?_,?_⟩
  ·grind[List.getElem_of_mem]
  ·have:=nQ (p:=p) (l:=l) (k:=l.findIdx p) (x:=l[l.findIdx p]) (by grind[List.getElem_of_mem]) (List.getElem?_eq_getElem A) List.findIdx_getElem 0;omega
 ·left;have h:∀y∈l,p y=false:=fun y E=>by grind
  grind[lO]
theorem GO{v u:Visit}:tO v u=true↔u=v:=by
 unfold tO;constructor
 ·intro h;simp only[Xbo,Xah,Xay]at h;cases u<;>simp_all
 grind
theorem adM{l:List Visit}{i:Nat}(A:i<l.length):rH l i=Md l i:=by
 obtain⟨v,J⟩:=aI A;unfold rH Md;rw[show l.getD i ⟨0,false⟩=v by grind];unfold cD;rw[qS _ 0 (Xaz _)];by_cases h:(l.take i).any (tO v)=true
 ·rw[h];rcases zT (tO v) l with⟨h1,_⟩|⟨k,y,T,E,O,F⟩
  all_goals grind
 ·have h:∀y∈l.take i,tO v y=false:=fun y E=>by grind
  grind[nQ,GO]
theorem oB{α:Type}{p q:α->Bool}{l:List α}(h:∀a∈l,p a=q a):l.any p=l.any q:=by grind
theorem vG{α:Type}{p q:α->Bool}{l:List α}(h:∀a∈l,p a=q a):l.all p=l.all q:=by grind
theorem Ha{o:Order}{i:Int}(h1: -1<=o.pick.place)(A: -1<=o.drop.place):fL o i=eK o i:=by
 unfold fL eK
 grind
theorem aAt{l:List Visit}{u v:Visit}(h:u≠v)(A:cD l u>=0):cD l u≠cD l v:=by grind[cD,zT,GO]
theorem aAa(l:List Visit)(v:Visit): -1<=cD l v:=by grind[cD,zT]
theorem aqI(l:List Visit)(o:Order)(i:Int):sQ l (eK o i) (-1)= !(!nM l (eK o i)||(((eK o i).length:Int) == 2&&decide (cD l ((eK o i).getD 0 ⟨0,false⟩)>cD l ((eK o i).getD 1 ⟨0,false⟩)))):=by
 have e:∀v,decide (cD l v> -1)= !decide (cD l v<0):=fun v=>by grind
 unfold eK;split
 ·split
  ·have E:=aAt (l:=l) (u:=⟨i,false⟩) (v:=⟨i,true⟩) (by simp);have A:=aAa l ⟨i,true⟩;simp only[List.cons_append,Xbn,sQ,e,nM,List.all_cons,List.all_nil,Xag,List.length_nil,List.getD_cons_zero,List.getD_cons_succ,Xbo]
   grind
  grind[sQ,nM]
 grind[sQ,nM]
theorem adV{x:Instance}(h:Acc x){l:List Visit}{v:Visit}(J:0<=v.order/\v.order<(x.orders.length:Int)):xN x.orders l v= !rR l (MD x v.order) v:=by
 obtain⟨o,E⟩:=aI (show v.order.toNat<x.orders.length by omega);have A:=h.order o (Xac E);have F:bS v.order x.orders.length=false:=by grind[bS]
 unfold xN eN MD;rw[if_neg (by grind),E];show(inV (fL o v.order) v&&sQ l (fL o v.order) (-1))= !rR l (eK o v.order) v;rw[Ha A.pick A.drop,aqI];unfold inV rR
 grind
theorem GJ{l:List Visit}{a b:Int}:Nt l a b=true↔∃j k:Nat,k<j/\j<l.length/\cT l j=a/\cT l k=b:=by
 unfold Nt aaJ;simp only[Xak,Xai,Xah,Xay];constructor
 ·rintro⟨j,A,k,E,h⟩;exact⟨j,k,E,A,h.1,h.2⟩
 ·rintro⟨j,k,E,A,h⟩;exact⟨j,A,k,E,h⟩
theorem Ew{l:List Visit}{a b:Int}(O:a≠b):IH l a b=(!iE l b||(iE l a&& !Nt l a b)):=by
 unfold IH;rcases zT (fun v:Visit=>v.order == b) l with⟨h0,h1⟩|⟨k,y,F,hy,T,h1⟩
 ·grind[iE]
 ·rw[h1];have J:iE l b=true:=Xak.2 ⟨y,Xac F,hy⟩;rw[J,show decide ((k:Int)<0)=false by simp];simp only[Xbt,Xcl,Xao]
  congr 2
  rw[Xar,GJ];unfold iE;rw[Xak];have A:y.order=b:=by grind
  constructor
  ·rintro⟨u,U,E⟩;obtain⟨i,hi,rfl⟩:=List.getElem_of_mem U;rw[List.getElem_drop]at E;rw[List.length_drop]at hi;have E:(l[k+i]'(by omega)).order=a:=by grind
   have Y:i≠0:=by grind
   exact⟨k+i,k,by omega,by omega,(jQ (List.getElem?_eq_getElem (by omega))).trans E,(jQ F).trans A⟩
  ·rintro⟨j,m,hm,hj,ha,X⟩;have Z:k<=m:=by
    refine Decidable.byContradiction fun hc=>?_
    have:=T (l[m]'(by omega)) (List.mem_take_iff_getElem.2 ⟨m,by omega,rfl⟩)
    grind[jQ]
   refine⟨l[j],?_,by grind[jQ]⟩;exact List.mem_drop_iff_getElem.2 ⟨j-k,by omega,by grind⟩
theorem _root_.Go.Proofs.YthephioccidfgaaGreatDoor.Acc.seq{x:Instance}(h:Acc x)(l:List Visit):oF x l=eR x l:=by
 unfold oF eR;by_cases X:(l.any fun v=>bS v.order x.orders.length)=true
 ·grind
 have U:(l.any fun v=>bS v.order x.orders.length)=false:=by grind
 have F:∀v∈l,0<=v.order/\v.order<(x.orders.length:Int):=fun v O=>by grind[bS]
 have hl:=h.orders;have A:∀v∈l,D3 v=false:=fun v O=>by grind[D3]
 rw[if_neg X,(Ad h.loadB F).1];show(if _ then _ else _)=_;rw[U];have Y:(((l.length:Int) == 0)||false)=(((0:Int) != 0)||((l.length:Int) == 0)):=by simp
 rw[Y];by_cases h0:(((0:Int) != 0)||((l.length:Int) == 0))=true
 ·grind
 rw[if_neg h0,if_neg h0];have e2:(List.range l.length).any (rH l)=(List.range l.length).any (Md l):=oB fun i Z=>adM (Xai.1 Z)
 have e3:l.all (xN x.orders l)=E5 x l:=vG fun v O=>adV h (F v O)
 have e4:(x.apart.any fun q=>iE l q.a&&iE l q.b)= !P3 x (jF l:Nat):=by
  unfold P3;rw[List.not_all_eq_any_not];refine oB fun q T=>?_
  have E:=h.apartB q T;have h1:=vC A (i:=q.a) E.a.1 (by have:=E.a;omega);have J:=vC A (i:=q.b) E.b.1 (by have:=E.b;omega);rw[(Ad h.loadB F).1]at h1 J;simp_all
 have e5:(x.before.any fun q=> !IH l q.a q.b)= !Ky x (jF l:Nat) l:=by
  unfold Ky;rw[List.not_all_eq_any_not];refine oB fun q T=>?_
  have E:=h.beforeB q T;have h1:=vC A (i:=q.a) E.a.1 (by have:=E.a;omega);have J:=vC A (i:=q.b) E.b.1 (by have:=E.b;omega);rw[(Ad h.loadB F).1]at h1 J;unfold axJ;rw[Ew E.ne,h1,J]
 simp_all
theorem aBo{s c:Nat}(U:s<2^63)(T:c<2^63):sI .andNot .i64 (s:Int) (c:Int)=0↔∀i,i<63->¬(s.testBit i=true/\c.testBit i=false):=by
 have h1:((s:Int)%((2^64:Nat):Int)).toNat=s:=by omega
 have O:((c:Int)%((2^64:Nat):Int)).toNat=c:=by omega
 have F:(BitVec.ofInt 64 (s:Int) &&& ~~~(BitVec.ofInt 64 (c:Int))).toNat<2^63:=by grind[Nat.and_le_left]
 have e:sI .andNot .i64 (s:Int) (c:Int)=(((BitVec.ofInt 64 (s:Int) &&& ~~~(BitVec.ofInt 64 (c:Int))).toNat:Nat):Int):=by exact bD (n:=(((BitVec.ofInt 64 (s:Int) &&& ~~~(BitVec.ofInt 64 (c:Int))).toNat:Nat):Int)) (by omega)
 have A:∀i,i<64->(BitVec.ofInt 64 (s:Int) &&& ~~~(BitVec.ofInt 64 (c:Int))).toNat.testBit i=(s.testBit i&& !c.testBit i):=fun i E=>by grind
 rw[e];constructor
 ·intro h0 i E J;have h0:(BitVec.ofInt 64 (s:Int) &&& ~~~(BitVec.ofInt 64 (c:Int))).toNat=0:=by omega
  grind
 ·intro X;have:(BitVec.ofInt 64 (s:Int) &&& ~~~(BitVec.ofInt 64 (c:Int))).toNat=0:=by
   refine Nat.eq_of_testBit_eq fun i=>?_
   rw[Nat.zero_testBit];by_cases E:i<63
   ·grind
   ·refine Xce (Xbh F (Xas (by decide) (by omega)))
  omega
theorem ZE{s i:Nat}(E:s<2^63):((IntKind.i64.wrap (Int.tdiv (s:Int) ((2^i:Nat):Int))).tmod 2 == 1)=s.testBit i:=by
 have e:Int.tdiv (s:Int) ((2^i:Nat):Int)=((s/2^i:Nat):Int):=by rfl
 have A:s/2^i<=s:=Nat.div_le_self _ _;rw[e,Xcm];generalize s/2^i=q at A;rw[show IntKind.i64.wrap (q:Int)=(q:Int)from bD (by omega),Int.tmod_eq_emod_of_nonneg (by omega)]
 grind
theorem Of{s i:Nat}(E:s<2^63):((IntKind.i64.wrap (Int.tdiv (s:Int) ((2^i:Nat):Int))).tmod 2 == 0)= !s.testBit i:=by
 rw[<-ZE E];have e:Int.tdiv (s:Int) ((2^i:Nat):Int)=((s/2^i:Nat):Int):=by rfl
 have A:s/2^i<=s:=Nat.div_le_self _ _;rw[e];generalize s/2^i=q at A;rw[show IntKind.i64.wrap (q:Int)=(q:Int)from bD (by omega),Int.tmod_eq_emod_of_nonneg (by omega)]
 grind
theorem Mh{c s:Int}(F:0<=c/\c<=1073741823)(J:0<=s/\s<=1073741823):xH c s=BZ c s:=by
 obtain⟨c,rfl⟩:=Int.eq_ofNat_of_zero_le F.1;obtain⟨s,rfl⟩:=Int.eq_ofNat_of_zero_le J.1;have A:c<2^63:=by omega
 have E:s<2^63:=by omega
 unfold xH BZ;rw[show decide ((c:Int)>=0)=true by simp,show decide ((s:Int)>=0)=true by simp,show decide ((c:Int)<0)=false by simp,show decide ((s:Int)<0)=false by simp];simp only[Xbc,Bool.or_self,Xcg];rw[Xar,Xay,aBo E A,Xaj];constructor
 ·grind[Qq,Of]
 ·intro h i O;have:=h i (Xai.2 O)
  grind[Qq,ZE,Of]
theorem YF(a b:Int):W (W a+b)=W (a+b):=by
 show IntKind.i64.wrap (IntKind.i64.wrap a+b)=IntKind.i64.wrap (a+b);have e:∀n:Int,IntKind.i64.wrap n=if n%18446744073709551616>=9223372036854775808 then n%18446744073709551616-18446744073709551616 else n%18446744073709551616:=fun n=>by show(if(true&&decide (n%18446744073709551616>=9223372036854775808))=true then n%18446744073709551616-18446744073709551616 else n%18446744073709551616)=_;simp
 grind
theorem aBH(a b:Int):W (W a-b)=W (a-b):=by grind[YF]
def uK:Nat->(Nat->Int)->Int
 | 0,_=>0
 | n+1,f=>uK n f+f n
theorem CE{f g:Nat->Int}:∀{n:Nat},(∀i,i<n->f i=g i)->uK n f=uK n g
 | 0,_=>rfl
 | n+1,h=>by unfold uK;rw[CE fun i A=>h i (by omega),h n (by omega)]
theorem Mq{f g:Nat->Int}{i0:Nat}:∀{n:Nat},i0<n->(∀i,i<n->i≠i0->f i=g i)->uK n g=uK n f+(g i0-f i0)
 | n+1,A,h=>by
  unfold uK;by_cases e:i0=n
  ·grind[CE]
  ·have:=Mq (f:=f) (g:=g) (n:=n) (by omega) fun i A=>h i (by omega)
   grind
theorem Nc{f:Nat->Int}{n:Nat}(h:∀i,n<=i->f i=0):∀m,uK (n+m) f=uK n f
 | 0=>rfl
 | m+1=>by show uK (n+m) f+f (n+m)=_;rw[Nc h m,h _ (by omega)];omega
def La(x:Instance)(j i:Nat):Int:=match x.orders[i]? with|some o=>o.load.getD j 0|none=>0
def stB(l:List Visit)(i:Int)(b:Bool)(k:Nat):Bool:=(l.take k).foldl (fun s v=>if(v.order != i)=true then s else !v.drop) b
theorem Ch{l:List Visit}{i:Int}{b:Bool}{k:Nat}{v:Visit}(h:l[k]?=some v):stB l i b (k+1)=if(v.order != i)=true then stB l i b k else !v.drop:=by simp_all[stB,aZ]
theorem Ry(l:List Visit)(i:Int)(b:Bool):∀k,k<=l.length->((∀u∈l.take k,u.order≠i)/\stB l i b k=b)\/∃m u,m<k/\l[m]?=some u/\u.order=i/\stB l i b k= !u.drop
 | 0,_=>.inl ⟨by simp,rfl⟩
 | k+1,hk=>by
  obtain⟨v,E⟩:=aI (show k<l.length by omega);rw[Ch E];by_cases h:v.order=i
  ·grind
  ·rw[if_pos (by simp[h])];rcases Ry l i b k (by omega)with⟨h1,A⟩|⟨m,u,h1,A,h3,J⟩
   ·left;refine⟨fun u F=>?_,A⟩;rw[aZ E]at F
    grind
   grind
theorem Zd(l:List Visit)(i:Int)(n:Nat)(b:Bool):∀m,m<=l.length->Xf l i n b m=(stB l i b (min n m),iE (l.take m) i)
 | 0,_=>by rw[Nat.min_zero];rfl
 | m+1,hm=>by
  obtain⟨v,A⟩:=aI (show m<l.length by omega);rw[M2 A,Zd l i n b m (by omega)];have e:iE (l.take (m+1)) i=(iE (l.take m) i||v.order == i):=by simp_all[iE,aZ]
  rw[e];unfold onS;by_cases h:v.order=i
  ·rw[if_neg (by simp[h])];by_cases E:m<n
   ·rw[if_pos (by grind),show min n (m+1)=m+1 by omega,Ch A,if_neg (by simp[h])];simp[h]
   grind
  ·rw[if_pos (by simp[h])];have:(v.order == i)=false:=by grind
   rw[this,Bool.or_false];by_cases E:m<n
   ·rw[show min n (m+1)=m+1 by omega,Ch A,if_pos (by simp[h]),show min n m=m by omega]
   grind
theorem aAW(l:List Visit)(k i:Nat)(o:Order)(A:k<=l.length):onB l k i o=(stB l i (decide (o.pick.place<0)) k&&iE l i):=by unfold onB;have:avO l i k (decide (o.pick.place<0))=Xf l i k (decide (o.pick.place<0)) l.length:=rfl;simp_all[Zd]
def onK(x:Instance)(l:List Visit)(k i:Nat):Bool:=match x.orders[i]? with|some o=>stB l i (decide (o.pick.place<0)) k&&iE l i|none=>false
def vT(x:Instance)(l:List Visit)(k j i:Nat):Int:=if onK x l k i=true then La x j i else 0
theorem WQ(ll:List (List Int))(a:List Int)(j:Nat):zK (ll++[a]) j=W (zK ll j+a.getD j 0):=by unfold zK;rw[Xbq];rfl
theorem NA(x:Instance)(l:List Visit)(k j:Nat)(E:k<=l.length):∀n,n<=x.orders.length->zK (tF x.orders l k n) j=W (uK n (vT x l k j))
 | 0,_=>rfl
 | n+1,hn=>by
  obtain⟨o,A⟩:=aI (show n<x.orders.length by omega);have ih:=NA x l k j E n (by omega);rw[Fv A];show _=W (uK n (vT x l k j)+vT x l k j n);have e:onK x l k n=onB l k n o:=by grind[onK,aAW]
  unfold vT;rw[e];by_cases h:onB l k n o=true
  ·rw[if_pos h,if_pos h,WQ,ih,YF];unfold La;rw[A];rfl
  ·rw[if_neg h,if_neg h,Xbl,ih,Int.add_zero];rfl
theorem anD{f:Int->Int->Int}{a b:List Int}{j:Nat}(E:j<a.length)(A:j<b.length):(List.zipWith f a b).getD j 0=f (a.getD j 0) (b.getD j 0):=by grind
def pkN(x:Instance)(i:Nat):Bool:=match x.orders[i]? with|some o=>decide (o.pick.place<0)|none=>false
theorem MT{x:Instance}{d:Nat}(J:∀o∈x.orders,o.load.length=d){s:Int}{j:Nat}(O:j<d):∀m,
  ((qP s m).foldl (rG x) (List.replicate d 0)).getD j 0=W (uK m fun i=>if(cR s i&&pkN x i)=true then La x j i else 0)
 | 0=>by simp[qP,uK,List.getD,O];rfl
 | m+1=>by
  have ih:=MT J (s:=s) O m;have E:=DU J (qP s m);rw[qD,Xbq];generalize X:(qP s m).foldl (rG x) (List.replicate d 0)=A at ih E |-;show _=W (uK m _+if(cR s (m:Int)&&pkN x m)=true then La x j m else 0);cases T:cR s (m:Int)with
  | false=>grind
  | true=>
   rw[if_pos rfl];simp only[Xbd,List.foldl_nil];unfold rG;rw[Xao];cases U:x.orders[m]? with
   | none=>simp_all[pkN]
   | some o=>
    have F:pkN x m=decide (o.pick.place<0):=by grind[pkN]
    rw[F,Xbc];show(if decide (o.pick.place<0)=true then zI A o.load else A).getD j 0=_;by_cases F:decide (o.pick.place<0)=true
    ·rw[if_pos F,if_pos F];unfold zI;rw[anD (by omega) (by grind),ih];simp_all[Yp,La,YF]
    grind
theorem aiM{l:List Visit}{k:Nat}{v:Visit}(h:l[k]?=some v):iE l v.order=true:=Xak.2 ⟨v,Xac h,by simp⟩
theorem Ik{x:Instance}{l:List Visit}(h:eR x l=0):(List.range l.length).any (Md l)=false/\E5 x l=true:=by grind[eR]
theorem Z8{x:Instance}{l:List Visit}(h:eR x l=0){k:Nat}{v:Visit}(A:l[k]?=some v):cD l v=k:=by
 have E:k<l.length:=(List.getElem?_eq_some_iff.1 A).1;have:=Xap.1 (Ik h).1 k (Xai.2 E)
 grind[Md]
theorem _root_.Go.Proofs.YthephioccidfgaaGreatDoor.Acc.board{x:Instance}(h:Acc x){l:List Visit}(X:eR x l=0){k:Nat}{v:Visit}{o:Order}(T:l[k]?=some v)(ho:x.orders[v.order.toNat]?=some o):stB l v.order (decide (o.pick.place<0)) k=v.drop:=by
 have hk:k<l.length:=(List.getElem?_eq_some_iff.1 T).1;have hO:=h.order o (Xac ho);have O:=Xaj.1 (Ik X).2 v (Xac T);have J:MD x v.order=eK o v.order:=by grind[MD]
 rw[J]at O;simp only[rR,Xau,Xam,decide_eq_false_iff_not]at O;obtain⟨⟨aa,ac⟩,A⟩:=O;have F:v∈eK o v.order:=by grind[cD,zT,GO]
 have E:∀w∈eK o v.order,0<=cD l w:=fun w hw=>by grind[nM]
 rcases Ry l v.order (decide (o.pick.place<0)) k (by omega)with⟨hn,U⟩|⟨m,u,hm,hu,ab,U⟩
 ·rw[U];cases Z:v.drop with
  | false=>
   have:o.pick.place≠ -1:=by grind[eK]
   have:=hO.pick
   grind
  | true=>
   refine decide_eq_true (Decidable.byContradiction fun ae=>?_);have h1:(o.pick.place != -1)=true:=by grind
   have h2:(o.drop.place != -1)=true:=by
    unfold eK at F
    grind
   have e:eK o v.order=[⟨v.order,false⟩,⟨v.order,true⟩]:=by simp_all[eK]
   have ev:(⟨v.order,true⟩:Visit)=v:=by grind
   rw[e]at A E;have hi:=E ⟨v.order,false⟩ (by simp);have A:¬cD l ⟨v.order,false⟩>cD l ⟨v.order,true⟩:=by grind
   rw[ev,Z8 X T]at A;unfold cD at hi A
   grind[zT,tO,List.mem_take_iff_getElem]
 ·rw[U];have:u≠v:=by grind[Z8]
  cases Z:v.drop <;> cases Y:u.drop <;> first|rfl|(exfalso;apply this;cases u;cases v;simp_all)
theorem Zr{x:Instance}(h:Acc x){l:List Visit}(T:eR x l=0){j:Nat}(Z:j<(gL x).toNat):∀k,k<=l.length->(Gj x l k).getD j 0=W (uK x.orders.length (vT x l k j))
 | 0,_=>by
  have F:=Fl T;have J:∀v∈l,D3 v=false:=fun v A=>by
   have:=F v A;have:=h.orders
   grind[D3]
  have hs:=MT h.loadB.load (s:=(dM l).1) Z 63;have e0:Gj x l 0=(qP (dM l).1 63).foldl (rG x) (List.replicate (gL x).toNat 0):=rfl;rw[e0,hs];have hN:=h.orders;rw[show 63=x.orders.length+(63-x.orders.length)by omega,Nc (n:=x.orders.length) (fun i U=>by simp_all[pkN])]
  congr 1
  refine CE fun i U=>?_
  obtain⟨o,E⟩:=aI U;unfold vT onK pkN;rw[E,Ka J (by omega) (by omega)];show(if(iE l i&&decide (o.pick.place<0))=true then _ else _)=if(decide (o.pick.place<0)&&iE l i)=true then _ else _
  rw[Bool.and_comm]
 | k+1,hk=>by
  obtain⟨v,A⟩:=aI (show k<l.length by omega);have F:=Fl T v (Xac A);obtain⟨o,E⟩:=aI (show v.order.toNat<x.orders.length by omega);have ih:=Zr h T Z k (by omega);have Y:=FA h.loadB l k;have aa:=h.loadB.load o (Xac E);have hb:=h.board T A E;have hh:=aiM A;have hn:((v.order.toNat:Nat):Int)=v.order:=by omega
  have t0:vT x l k j v.order.toNat=if v.drop=true then o.load.getD j 0 else 0:=by simp_all[vT,onK,La]
  have t1:vT x l (k+1) j v.order.toNat=if v.drop=true then 0 else o.load.getD j 0:=by
   unfold vT onK La;rw[E,hn,hh];show(if(stB l v.order (decide (o.pick.place<0)) (k+1)&&true)=true then o.load.getD j 0 else 0)=_;rw[show stB l v.order (decide (o.pick.place<0)) (k+1)= !v.drop by simp_all[Ch],Xbo]
   grind
  have ht:∀i,i<x.orders.length->i≠v.order.toNat->vT x l k j i=vT x l (k+1) j i:=fun i U ab=>by
   obtain⟨O,X⟩:=aI U;unfold vT onK;rw[X];show(if(stB l i (decide (O.pick.place<0)) k&&iE l i)=true then _ else _)=if(stB l i (decide (O.pick.place<0)) (k+1)&&iE l i)=true then _ else _
   rw[show stB l i (decide (O.pick.place<0)) (k+1)=stB l i (decide (O.pick.place<0)) k by rw[Ch A,if_pos (by grind)]]
  rw[Mq (f:=vT x l k j) (g:=vT x l (k+1) j) (i0:=v.order.toNat) (by omega) ht,M7 A,t0,t1];unfold Xw;rw[E];show(if v.drop=true then Ej (Gj x l k) o.load else zI (Gj x l k) o.load).getD j 0=_;cases hd:v.drop with
  | true=>
   rw[if_pos rfl,if_pos rfl,if_pos rfl]
   grind[Ej,Yd,aBH]
  | false=>simp_all[zI,Yp,YF]
theorem auT{x:Instance}(h:Acc x)(l:List Visit)(n:Int):Ku (tF x.orders l n x.orders.length) (gL x)=true:=by
 have J:=h.dims;unfold Ku;rw[show decide (gL x<0)=false by grind,show decide (gL x>3)=false by grind];simp only[Bool.or_self,Xcg,Xbc];rw[Xaj];intro a E;unfold tF at E;obtain⟨i,_,F⟩:=Xbp.1 E;cases A:x.orders[i]? with
 | none=>grind
 | some o=>
  rw[A]at F;have:=h.loadB.load o (Xac A)
  grind
theorem aoF{a b:List Int}(h1:a.length=b.length)(h:∀j,j<a.length->a.getD j 0=b.getD j 0):a=b:=by grind[List.ext_getElem]
theorem NQ{x:Instance}(h:Acc x){l:List Visit}(F:eR x l=0){k:Nat}(E:k<=l.length):tG x l k=(Gj x l k,0):=by
 unfold tG Yf;rw[if_pos (auT h l k)]
 congr 1
 have J:=FA h.loadB l k;refine aoF (by grind) fun j A=>?_
 have A:j<(gL x).toNat:=by grind
 rw[Zr h F A k E,<-NA x l k j E _ (Xae _)]
 grind
theorem _root_.Go.Proofs.YthephioccidfgaaGreatDoor.Acc.loads{x:Instance}(h:Acc x)(l:List Visit):oP x l=Db x l:=by
 unfold oP Db;rw[h.seq l];by_cases A:(eR x l != 0)=true
 ·grind
 rw[if_neg A,if_neg A];have A:eR x l=0:=by grind
 have E:oR (VH x l)=0:=SW fun e E=>by grind[VH,NQ]
 rw[if_neg (by grind)]
 grind[yG,azN,List.map_congr_left,NQ]
theorem _root_.Go.Proofs.YthephioccidfgaaGreatDoor.Acc.fits{x:Instance}(h:Acc x)(r:Route):Bj x r=yN x r:=by unfold Bj yN;rw[h.loads]
theorem _root_.Go.Proofs.YthephioccidfgaaGreatDoor.Acc.ev{x:Instance}(h:Acc x)(r:Route):(cG x r).2.2=(oO x r).2.2:=by
 unfold cG oO;by_cases O:bS r.type x.types.length=true
 ·grind
 rw[if_neg O,if_neg O];have F:∃t,x.types[r.type.toNat]?=some t:=by simp_all[bS]
 obtain⟨t,E⟩:=F;rw[E];show _=(JT x r t).2.2;unfold JT;rw[h.seq];by_cases J:(eR x r.visits != 0)=true
 ·grind
 rw[if_neg J,if_neg J];have A:eR x r.visits=0:=by grind
 have X:=h.type t (Xac E);have es:(r.visits.any fun v=> !Aq x r v)=r.visits.any fun v=> !E3 x t v:=oB fun v Y=>by have U:=Fl A v Y;obtain⟨o,T⟩:=aI (show v.order.toNat<x.orders.length by omega);unfold Aq E3;rw[E,T];exact congrArg _ (Mh X.skills (h.order o (Xac T)).skills)
 unfold Dr;rw[es,h.fits,h.best]
 grind
end Sq
namespace Sq
open Mv (bZ cL aR)
def Xp{x:Instance}{t:VType}{r:Route}(A:RouteB x t r){k:Nat}(U:k<=r.visits.length){l m J:Lab}{b:Bool}(bl:LabB l k)(O:LabB m k)(F:oI l m)(h:fP x t r k m b=.ok J):
  ∃l',fP x t r k l b=.ok l'/\oI l' J:=by
 have X:=A.short;by_cases E:k<r.visits.length
 ·obtain⟨v,T⟩:=aI E;have e:∀l,fP x t r k l b=pD x t (eT x t r k) (bI x v).1 k l b:=fun l=>by grind[fP]
  rw[e]at h |-;exact JV (by omega) A.go (A.stop v (Xac T)) bl O F h
 ·have e:∀l,fP x t r k l b=rZ x t (eT x t r k) k l b:=fun l=>by grind[fP]
  rw[e]at h |-;exact JP (by omega) A.go bl O F h
def okO(e:Except Int Lab):Option Lab:=match e with| .ok l=>some l| .error _=>none
def okL(es:List (Except Int Lab)):List Lab:=es.filterMap okO
def asL(a b:List (Except Int Lab)):okL (a++b)=okL a++okL b:=List.filterMap_append
def OO{es:List (Except Int Lab)}{l:Lab}:l∈okL es↔.ok l∈es:=by
 unfold okL;rw[List.mem_filterMap];constructor
 ·rintro⟨e,A,h⟩;cases e with
  | error e=>cases h
  | ok l'=>injection h with h;grind
 ·intro h;exact⟨_,h,rfl⟩
def Pa(fixed:List Bool):Nat->List (List Bool)
 | 0=>[[]]
 | k+1=>(Pa fixed k).flatMap fun c=>(eA fixed k).map fun b=>c++[b]
theorem BX(fixed:List Bool):∀k,∀c∈Pa fixed k,c.length=k
 | 0,c,h=>by
  have h:c∈[[]]:=h
  grind
 | k+1,c,h=>by obtain⟨d,A,h⟩:=Xbp.1 h;obtain⟨b,_,rfl⟩:=Xan.1 h;simp[BX fixed k d A]
def yM(x:Instance)(t:VType)(r:Route)(k:Nat)(l:Lab):List (Except Int Lab):=(eA r.rests k).map fun b=>fP x t r k l b
def Qo(x:Instance)(t:VType)(r:Route)(L:List (List Bool)):List Lab:=okL (L.map fun c=>jL x t r c 0 (eZ t r))
def L5(x:Instance)(t:VType)(r:Route)(k:Nat):∀L:List (List Bool),(∀c∈L,c.length=k) ->
   Qo x t r (L.flatMap fun c=>(eA r.rests k).map fun b=>c++[b])=(Qo x t r L).flatMap fun l=>okL (yM x t r k l)
 | [],_=>rfl
 | c::L,h=>by
   have ih:=L5 x t r k L fun d F=>h d (by grind)
   have E:=h c (by simp);unfold Qo at ih |-;rw[List.flatMap_cons,Xaw,asL,ih,Xaq];have e : okL (((eA r.rests k).map fun b => c ++ [b]).map fun c => jL x t r c 0 (eZ t r)) = match jL x t r c 0 (eZ t r) with
       | .error _=>[]
       | .ok l=>okL (yM x t r k l):=by
     rw[List.map_map];cases A:jL x t r c 0 (eZ t r)with
     | error e=>
       dsimp only;refine List.filterMap_eq_nil_iff.2 fun a J=>?_
       grind[okO,mN]
     | ok l=>
       dsimp only;unfold yM
       congr 1
       simp_all[mN]
   rw[e];cases A:jL x t r c 0 (eZ t r)with
   | error e=>rfl
   | ok l=>rfl
inductive Cov:List Lab->List Lab->Prop
 | nil:Cov [] []
 | keep {f d:List Lab} (l:Lab):Cov f d->Cov (f++[l]) (d++[l])
 | skip {f d:List Lab} (l m:Lab):Cov f d->m∈d->oI m l->Cov (f++[l]) d
def Cov.sub{f d:List Lab}(h:Cov f d):∀m∈d,m∈f:=by induction h<;>grind
def Cov.add{F D:List Lab}(h:Cov F D)(es:List (Except Int Lab)):Cov (F++okL es) (es.foldl xF D):=by
 induction es generalizing F D with
 | nil=>grind[okL]
 | cons e es ih=>
  cases e with
  | error e=>exact ih h
  | ok l=>
   have J:F++okL (.ok l::es)=(F++[l])++okL es:=by rw[show okL (.ok l::es)=l::okL es from rfl,Xbk];rfl
   rw[J,Xbd];refine ih ?_;show Cov (F++[l]) (if D.any (yO · l)=true then D else D++[l]);by_cases A:D.any (yO · l)=true
   ·rw[if_pos A];obtain⟨m,O,E⟩:=Xak.1 A;exact .skip l m h O (K4.1 E)
   ·rw[if_neg A];exact .keep l h
def Cov.skips{F D:List Lab}(h:Cov F D)(A:List Lab):(∀l∈A,∃m∈D,oI m l)->Cov (F++A) D:=by
 induction A generalizing F with
 | nil=>grind
 | cons l A ih=>intro E;obtain⟨m,O,J⟩:=E l (by simp);rw[show F++l::A=(F++[l])++A by simp];exact ih (.skip l m h O J) fun q T=>E q (by grind)
def Cov.grow{x:Instance}{t:VType}{r:Route}(Z:RouteB x t r){k:Nat}(Y:k<=r.visits.length){f d:List Lab}(h:Cov f d):
  (∀l∈f,LabB l k)->Cov (f.flatMap fun l=>okL (yM x t r k l)) (Cn x t r d k):=by
 induction h with
 | nil=>intro _;exact .nil
 | @keep f d l h ih=>
  intro A;have ih:=ih fun q E=>A q (List.mem_append_left _ E)
  rw[List.flatMap_append,show[l].flatMap (fun l=>okL (yM x t r k l))=okL (yM x t r k l)by simp];have e:Cn x t r (d++[l]) k=(yM x t r k l).foldl xF (Cn x t r d k):=by grind[Cn,yM]
  rw[e];exact ih.add _
 | @skip f d l m h hm hb ih=>
  intro A;have ih:=ih fun q E=>A q (List.mem_append_left _ E)
  rw[List.flatMap_append,show[l].flatMap (fun l=>okL (yM x t r k l))=okL (yM x t r k l)by simp];refine ih.skips _ fun q E=>?_
  obtain⟨b,T,O⟩:=Xan.1 (OO.1 E);obtain⟨X,h1,U⟩:=Xp Z Y (A m (List.mem_append_left _ (h.sub m hm))) (A l (by simp)) hb O;obtain⟨q',F,J⟩:=(C7 (d.flatMap fun l=>(eA r.rests k).map fun b=>fP x t r k l b) []).2.2 X (Xbp.2 ⟨m,hm,Xan.2 ⟨b,T,h1⟩⟩);exact⟨q',F,J.trans U⟩
def YD{x:Instance}{t:VType}{r:Route}(A:RouteB x t r):∀k,k<=r.visits.length+1->Cov (Qo x t r (Pa r.rests k)) (dpL x t r k)
 | 0,_=>Cov.keep (eZ t r) Cov.nil
 | k+1,hk=>by
  have ih:=YD A k (by omega);show Cov (Qo x t r ((Pa r.rests k).flatMap fun c=>(eA r.rests k).map fun b=>c++[b])) (Cn x t r (dpL x t r k) k);rw[L5 x t r k _ (BX r.rests k)];refine ih.grow A (by omega) fun l J=>?_
  obtain⟨c,E,F⟩:=Xan.1 (OO.1 J);exact GW A k c l (BX r.rests k c E) (by omega) F
def fmS(o:Option Lab)(m:Lab):Option Lab:=match o with|none=>some m|some b=>some (jX b m)
def fm(l:List Lab):Option Lab:=l.foldl fmS none
def aaR(l:Lab)(A:List Lab):fm (l::A)=some (A.foldl jX l):=by
 show A.foldl fmS (some l)=_;induction A generalizing l with
 | nil=>rfl
 | cons a r ih=>exact ih (jX l a)
theorem Yq(f:List Lab)(l:Lab):fm (f++[l])=fmS (fm f) l:=by grind[fm]
def akC(b m:Lab):(jX b m).sheet.end_<=b.sheet.end_/\(jX b m).sheet.end_<=m.sheet.end_:=by grind[jX]
def Tn:∀(A:List Lab) (b:Lab),(A.foldl jX b).sheet.end_<=b.sheet.end_/\∀m∈A,(A.foldl jX b).sheet.end_<=m.sheet.end_
 | [],b=>⟨Xaz _,by simp⟩
 | a::r,b=>by
  have ih:=Tn r (jX b a);have h:=akC b a
  grind
def ayV{d:List Lab}{m:Lab}(A:m∈d):∃b,fm d=some b/\b.sheet.end_<=m.sheet.end_:=by
 cases d with
 | nil=>cases A
 | cons a r=>
  refine⟨_,aaR a r,?_⟩;have h:=Tn r a
  grind
def Cov.first{f d:List Lab}(h:Cov f d):(∀l∈f,l.sheet.end_=l.ready)->fm f=fm d:=by
 induction h with
 | nil=>simp
 | keep l h ih=>grind[Yq]
 | skip l m h hm hb ih=>intro A;rw[Yq,ih fun q E=>A q (List.mem_append_left _ E)];obtain⟨b,h1,F⟩:=ayV hm;rw[h1];have O:=A l (by simp);have T:=A m (List.mem_append_left _ (h.sub m hm));have J:=hb.1;show some (jX b l)=some b;simp_all[jX,if_neg]
def GA:∀(m:Nat) (p:List Bool),tT p (m+1)=(tT p m).flatMap fun c=>[c++[false],c++[true]]
 | 0,p=>rfl
 | m+1,p=>by show tT (p++[false]) (m+1)++tT (p++[true]) (m+1)=(tT (p++[false]) m++tT (p++[true]) m).flatMap _;rw[GA m,GA m,List.flatMap_append]
def JR(fixed:List Bool):∀k,k<=fixed.length->Pa fixed k=[fixed.take k]
 | 0,_=>rfl
 | k+1,h=>by
  show(Pa fixed k).flatMap _=_;rw[JR fixed k (by omega)];unfold eA;rw[if_pos (by omega)]
  grind[aZ]
def aqC(fixed:List Bool):∀m,Pa fixed (fixed.length+m)=tT fixed m
 | 0=>by rw[Nat.add_zero,JR fixed _ (Xae _),Xad];rfl
 | m+1=>by show(Pa fixed (fixed.length+m)).flatMap _=_;rw[aqC fixed m,GA];unfold eA;rw[if_neg (show ¬fixed.length.add m<fixed.length from fun e=>absurd (show fixed.length+m<fixed.length from e) (by omega))];rfl
def acM(o:Option Lab)(b:Sheet×Bool):Prop:=match o with|none=>b=(aS,false)|some m=>b=(m.sheet,true)
def Q1{x:Instance}{r:Route}{t:VType}(E:bW x r=true)(J:x.types[r.type.toNat]?=some t)(F:∀v∈r.visits,(bI x v).1.start<=(bI x v).1.close):
  ∀(L:List (List Bool)) (o:Option Lab) (b:Sheet×Bool),(∀c∈L,c.length=r.visits.length+1)->acM o b->acM ((Qo x t r L).foldl fmS o) (Bi x r L b)
 | [],o,b,_,h=>h
 | c::L,o,b,hl,h=>by
  have h0:=Sf (bs:=c) E J (hl c (by simp)) F;have ih:=Q1 E J F L;show acM _ (Bi x r L (lH x r c b));have T:=fun d O=>hl d (List.mem_cons_of_mem c O)
  unfold Qo;rw[Xaq];cases A:jL x t r c 0 (eZ t r)with
  | error e=>
   rw[A]at h0;have U:=B6 _ _ _ _ A;show acM ((Qo x t r L).foldl fmS o) _;have:lH x r c b=b:=by simp_all[lH]
   grind
  | ok m=>
   rw[A]at h0;show acM ((Qo x t r L).foldl fmS (fmS o m)) _;refine ih _ _ T ?_;unfold lH;rw[h0.1,h0.2];cases o with
   | none=>have h:b=(aS,false):=h;rw[h];rfl
   | some q=>
    have h:b=(q.sheet,true):=h;rw[h];show(if((0:Int) == 0&&(!true||decide (m.sheet.end_<q.sheet.end_)))=true then(m.sheet,true)else(q.sheet,true))=((jX q m).sheet,true);unfold jX
    grind
def _root_.Go.Proofs.YthephioccidfgaaGreatDoor.Acc.best2{x:Instance}(h:Acc x)(r:Route):gE x r=uC x r:=by
 by_cases hb:(!bW x r||decide ((r.rests.length:Int)>(r.visits.length:Int)+1))=true
 ·simp_all[gE,uC]
 have Y:bW x r=true/\(r.rests.length:Int)<=(r.visits.length:Int)+1:=by grind
 obtain⟨J,U⟩:=Y;have Z:∃t,x.types[r.type.toNat]?=some t:=by have:=tH J;simp_all
 obtain⟨t,T⟩:=Z;obtain⟨hB,hs⟩:=h.route J T;have U:r.rests.length<=r.visits.length+1:=by omega
 have h2:=h.best r;have h0:=Sf (bs:=dE r) J T (jU U) hs;have hz:(iL x r (dE r)).2.2≠0->(iL x r (dE r)).1=aS:=by grind
 refine Prod.ext ?_ h2;rw[Ue J U hz];unfold gE;rw[if_neg hb,T];show(uM x t r).1=_;have O:tT r.rests (sD r)=Pa r.rests (r.visits.length+1):=by rw[<-aqC];grind[sD]
 have A:=Q1 J T hs (tT r.rests (sD r)) none (aS,false) (fun c hc=>by grind[BX]) rfl;have F:=(YD hB (r.visits.length+1) (Xae _)).first fun l hl=>by
  obtain⟨c,hc,E⟩:=Xan.1 (OO.1 hl);obtain⟨cs,b,rfl,hm⟩:=Es (BX r.rests _ c hc);rw[mN]at E;cases hd:jL x t r cs 0 (eZ t r)with
  | error e=>grind
  | ok l'=>rw[hd]at E;have E:fP x t r (0+cs.length) l' b=.ok l:=E;unfold fP at E;rw[List.getElem?_eq_none (by omega)]at E;obtain⟨_,_,_,rfl⟩:=J6 E;rfl
 rw[<-O]at F;have A:acM (fm (dpL x t r (r.visits.length+1))) (Bi x r (tT r.rests (sD r)) (aS,false)):=F▸A;unfold uM;rw[akB x t r _ (Xae _)];generalize X:dpL x t r (r.visits.length+1)=d at A;cases d with
 | nil=>have A:Bi x r (tT r.rests (sD r)) (aS,false)=(aS,false):=A;rw[A];show Fq (Bu x t (fA x r.visits) (dE r) 0 (eZ t r))=aS;rw[NJ x t r _ 0 _ (by grind[jU])];have hk:oW r.rests (dE r):=(uU (by grind[jU])).2 ⟨_,rfl⟩;obtain⟨e,E⟩:=(XW hB).1 X (dE r) (jU U) hk;rw[E];rfl
 | cons l ls=>rw[aaR]at A;have A:Bi x r (tT r.rests (sD r)) (aS,false)=((ls.foldl jX l).sheet,true):=A;rw[A];rfl
def _root_.Go.Proofs.YthephioccidfgaaGreatDoor.Acc.eval{x:Instance}(h:Acc x)(r:Route):cG x r=oO x r:=by
 unfold cG oO;by_cases O:bS r.type x.types.length=true
 ·grind
 rw[if_neg O,if_neg O];have F:∃t,x.types[r.type.toNat]?=some t:=by simp_all[bS]
 obtain⟨t,E⟩:=F;rw[E];show _=JT x r t;unfold JT;rw[h.seq];by_cases J:(eR x r.visits != 0)=true
 ·grind
 rw[if_neg J,if_neg J];have A:eR x r.visits=0:=by grind
 have X:=h.type t (Xac E);have es:(r.visits.any fun v=> !Aq x r v)=r.visits.any fun v=> !E3 x t v:=oB fun v Y=>by have U:=Fl A v Y;obtain⟨o,T⟩:=aI (show v.order.toNat<x.orders.length by omega);unfold Aq E3;rw[E,T];exact congrArg _ (Mh X.skills (h.order o (Xac T)).skills)
 unfold Dr;rw[es,h.fits,h.best2]
 grind
end Sq
end Go.Proofs.YthephioccidfgaaGreatDoor
