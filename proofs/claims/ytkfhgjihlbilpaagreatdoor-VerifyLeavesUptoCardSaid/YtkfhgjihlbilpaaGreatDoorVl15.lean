import Derived.Test.YtkfhgjihlbilpaaGreatDoorVl12
set_option linter.unusedSimpArgs false
set_option linter.unusedVariables false
set_option linter.defProp false
set_option maxRecDepth 100000
namespace Go.Proofs.YtkfhgjihlbilpaaGreatDoor
open Go.Aw Go.Aw.D Go.Proofs Ty
namespace Sq
open Go.Proofs.Tryz
open Mv (bS bU aS)
def dR(l:Lab):List AV:=[int l.ready,int l.since,boo l.x8.rest,int l.x8.ω,.sl (l.x8.times.map sT),int l.x8.end_,int l.x8.o7]
def nF(l:Lab):(dR l).length=7:=(rfl)
def apD(l:Lab):(dR l).getD 0 .any=int l.ready:=(rfl)
def aoM(l:Lab):(dR l).getD 1 .any=int l.since:=(rfl)
def apZ(l:Lab):(dR l).getD 4 .any=.sl (l.x8.times.map sT):=(rfl)
def anD(l:Lab):(dR l).getD 5 .any=int l.x8.end_:=(rfl)
def apT(l:Lab):((dR l).drop 2).take 5=bT l.x8:=(rfl)
def Yp(l:Lab):(dR l).take 7=dR l:=(rfl)
def dT(x:Instance)(t:VType)(r:Route)(st:List Stop):List AV:=aD x++(bI t++(bJ r++[.sl (st.map eT)]))
section
variable(x:Instance)(t:VType)(r:Route)(st:List Stop)
def I4:(dT x t r st).length=25:=(rfl)
def adQ:(dT x t r st).getD 8 .any=int t.src:=(rfl)
def aiU:(dT x t r st).getD 9 .any=int t.dst:=(rfl)
def Xq:(dT x t r st).getD 12 .any=int t.o6:=(rfl)
def X6:(dT x t r st).getD 13 .any=int t.start:=(rfl)
def VT:(dT x t r st).getD 14 .any=int t.close:=(rfl)
def Ye:(dT x t r st).getD 15 .any=int t.υ:=(rfl)
def XJ:(dT x t r st).getD 16 .any=int t.rest:=(rfl)
def XM:(dT x t r st).getD 21 .any=int r.start:=(rfl)
def XC:(dT x t r st).getD 22 .any=.sl (r.o5.map dY):=(rfl)
def WE:(dT x t r st).getD 24 .any=.sl (st.map eT):=(rfl)
def Vq:(dT x t r st).take 2=bH x.τ:=(rfl)
def Vf:(dT x t r st).take 25=dT x t r st:=(rfl)
end
attribute [go_sem] nF apD aoM apZ anD apT Yp I4 adQ aiU Xq X6 VT Ye XJ XM XC WE Vq Vf
def FU:Lab:=⟨0,0,bA⟩
abbrev iS(cs:List AV):Row:=⟨292,7,[cs]⟩
def vA(t:VType)(st:List Stop)(k:Nat):Int:=match k with
 | 0=>t.src
 | j+1=>(st.getD j mP).place
def US(x:Instance)(t:VType)(r:Route)(st:List Stop):PC prog 258 [.agg (dT x t r st)] (.agg (dR (iK t r))):=by
 refine pcd func258 rfl rfl ?_;simp only[go_sem];refine eJ fun F A E (I:A F=some (iS (dR FU))) N=>?_
 simp only[go_sem];refine aG I (by simp) ?_;simp only[go_sem];exact .refl _
def aqZ(x:Instance)(t:VType)(r:Route)(st:List Stop)(k:Nat)(I:k<=st.length)(F:st.length<=1048576):PC prog 350 [.agg (dT x t r st),int k] (int (vA t st k)):=by
 refine pcd func350 rfl rfl ?_;simp only[go_sem];apply aA <;> intro J
 ·have:k=0:=by grind
  subst this;simp only[go_sem];exact .refl _
 ·obtain⟨j,rfl⟩:∃j,k=j+1:=⟨k-1,by grind⟩;obtain⟨s,E⟩:=aK (show j<st.length by omega);have w:IntKind.i64.wrap (((j+1:Nat):Int)-1)=(j:Int):=by grind[aW]
  have A:=inB (show j<st.length by omega);simp only[go_sem,w,aC E,A]
  grind[bS,vA]
def abE:∀l:List Tm,cT 4 (l.map sT)
 | []=>trivial
 | _::r=>⟨rfl,abE r⟩
def alT(l:List Tm)(I:l.length<=1048576):NC prog 349 [.sl (l.map sT)] (At l) .os:=by
 refine ncb (fun t=>t == 2||t == 5) func349 rfl rfl ?_;simp only[go_sem];refine aH fun j O=>?_
 have R:=aB bN j (some (At []));generalize aI bN j _=H at R |-;simp only[go_sem];refine⟨fun J=>?_,?_⟩
 ·refine aA (fun _=>?_) (fun A=>by simp at A);simp only[go_sem];refine aH fun i E=>?_
  simp only[go_sem]
  grind[aB]
 ·refine aA (fun A=>by simp at A) (fun _=>?_);simp only[go_sem];refine aH fun i E=>?_
  simp only[go_sem];refine aU (aB _ _ _) ⟨rfl,rfl⟩ (abE _) (by grind) (fun j' F=>?_);simp only[go_sem]
  grind[aB]
def oG(x:Instance)(t:VType)(st:List Stop)(k:Nat)(l:Lab)(b:Bool):Except Int Lab:=match st[k]? with
 | some s=>qB x t (vA t st k) s k l b
 | none=>xW x t (vA t st k) k l b
def ajD(e:Except Int Lab):Lab:=match e with| .ok l=>l| .error _=>FU
def wX:Instance:=⟨⟨[],[]⟩,[],[],[],[]⟩
def EI:VType:=⟨ByteArray.empty,0,0,0,[],0,0,0,0,0,0,0,0,0⟩
def Fc:Route:=⟨0,0,[],[]⟩
abbrev BT(cs:List AV):Row:=⟨288,25,[cs]⟩
def gQ(x:Instance)(l:List Visit):List Stop:=l.map fun v=>(bM x v).1
def EE(x:Instance)(r:Route):List AV×Bool:=if cC x r=true then match x.types[r.type.toNat]? with
 | some t=>(dT x t r (gQ x r.y7),true)
 | none=>(dT wX EI Fc [],false)
 else(dT wX EI Fc [],false)
def I2(x:Instance)(t:VType)(r:Route)(j:Nat):List AV:=aD x++(bI t++(bJ r++[.os j]))
def tk1{x:Instance}{l:List AV}:(aD x++l).take 6=aD x:=(rfl)
def dr1{x:Instance}{l:List AV}:(aD x++l).drop 20=l.drop 14:=(rfl)
def tk2{x:Instance}{t:VType}{l:List AV}:(aD x++bI t++l).take 20=aD x++bI t:=(rfl)
def dr2{x:Instance}{t:VType}{l:List AV}:(aD x++bI t++l).drop 24=l.drop 4:=(rfl)
abbrev Fp(l:List Stop):Row:=⟨58,4,l.map eT⟩
def asR(x:Instance)(t:VType)(r:Route)(j:Nat):(I2 x t r j).getD 24 .any=.os j:=(rfl)
def ahD(x:Instance)(t:VType)(r:Route)(j:Nat):(I2 x t r j).take 25=I2 x t r j:=(rfl)
def adE(x:Instance)(t:VType)(r:Route)(j:Nat):(I2 x t r j).length=25:=(rfl)
attribute [go_sem] asR ahD adE
def DA{H:aM}{l l':List AV}(h:ConvL H l l'):∀p:List AV,ConvL H (p++l) (p++l')
 | []=>h
 | a::p=>.cons a a _ _ (.refl a) (DA h p)
def aeW{H:aM}{x:Instance}{t:VType}{r:Route}{A:Nat}{st:List Stop}(R:H A=some (Fp st)):ConvL H (I2 x t r A) (dT x t r st):=
 DA (DA (DA (.cons _ _ _ _ (.row _ _ _ R (ConvE.refl _)) .nil) _) _) _
def afL{x:Instance}{v:Visit}(h:(bM x v).2=true):0<=(bM x v).1.place/\fF x v=((bM x v).1,0):=by
 refine⟨?_,by simp_all[fF]⟩;unfold bM at h |-
 grind
def Xu{x:Instance}{v:Visit}(h:(bM x v).2=false):((fF x v).2 != 0)=true:=by
 unfold fF
 grind
def aBb(x:Instance)(r:Route)(hl:r.y7.length<=1048576):PC prog 257 [.agg (aD x),.agg (bJ r)] (.tup [.agg (EE x r).1,boo (EE x r).2]):=by
 refine pcb (fun t=>t == 47) func257 rfl rfl ?_;simp only[go_sem];refine eJ fun i4 aj au (A:aj i4=some (BT (dT wX EI Fc []))) N=>?_
 simp only[go_sem];apply aA <;> intro h1
 ·have hp:cC x r=false:=by grind[cC,cH]
  have e:EE x r=(dT wX EI Fc [],false):=by simp_all[EE]
  rw[e];simp only[go_sem];refine aG A (by simp) ?_;simp only[go_sem];exact .refl _
 have hp:cC x r=r.y7.all fun v=>(bM x v).2:=by grind[cC,cH]
 have ar:0<=r.type/\r.type<(x.types.length:Int):=by grind
 have aw:r.y7.length<=20:=by grind
 obtain⟨t,ht⟩:=aK (show r.type.toNat<x.types.length by omega);simp only[go_sem];refine jK [(0,true),(1,true),(2,true),(3,true),(4,true),(5,true),(6,true),(7,true),(8,true),(9,false),(10,false)] (by kernel_rfl) ?_;simp only[go_sem,aC ht,ar,Xar,tk1,dr1,tk2,dr2];refine eJ fun i6 ab av (I:ab i6=some (BT (dT wX EI Fc []))) N=>?_
 replace A:=N A;obtain⟨E,A⟩:=A;simp only[go_sem];refine Od 24 58 4 ⟨rfl,by decide⟩ I ⟨by simp,rfl,Xae _⟩ fun J ak=>?_
 have Y:i6≠J:=aV I ak;have T:i4≠J:=aV A ak;generalize hG:aI (aI ab J _) i6 _=HG;replace A:=kpR hG E T A;have Rs:HG J=some (Fp []):=by rw[<-hG,aF _ _ _ _ Y.symm,aB];rfl
 replace I:HG i6=some (BT (I2 x t r J)):=by rw[<-hG,aB];rfl
 simp only[go_sem];refine⟨fun ρ H=>∃k:Nat,k<=r.y7.length/\ρ 2=.rp (aD x) 0/\ρ 4=.op i4 0 0/\ρ 6=.op i6 0 0/\ρ 49=.sl (r.y7.map aN)/\ρ 50=int r.y7.length/\ρ 51=int k/\H i4=some (BT (dT wX EI Fc []))/\(∃J,H i6=some (BT (I2 x t r J))/\H J=some (Fp (gQ x (r.y7.take k))))/\∀v∈r.y7.take k,(bM x v).2=true,fun ρ _=>r.y7.length-aT (ρ 51),⟨0,Xaa _,rfl,rfl,rfl,rfl,rfl,by rfl,A,⟨J,I,Rs⟩,by simp⟩,?_⟩;rintro ρ H ⟨k,hk,h2,h4,h6,ah,am,af,A,⟨J,I,Rs⟩,hz⟩;have O:J≠i6:=dU Rs I (by rfl);have F:J≠i4:=dU Rs A (by rfl);simp only[go_sem,am,af];refine aA (fun X=>?_) (fun ae=>?_)
 ·have X:=aX X;obtain⟨v,hv⟩:=aK X;have b1:=inB X;simp only[go_sem,ah,af,aC hv,b1];refine aH fun i8 al=>?_
  simp only[go_sem];refine bW al (by simp[dG]) fun ai (R8:ai i8=some (⟨97,2,[aN v]⟩)) N=>?_
  replace A:=(N A).2;replace I:=(N I).2;replace Rs:=(N Rs).2;simp only[go_sem,h2,R8,];refine aL (ZZ x v) ?_;simp only[go_sem];refine aH fun i9 an=>?_
  simp only[go_sem];refine bW an (by simp[iP]) fun aa (R9:aa i9=some (BJ (fF x v).1)) N=>?_
  replace A:=(N A).2;replace I:=(N I).2;replace Rs:=(N Rs).2;simp only[go_sem,R9,];cases ac:(bM x v).2 with
  | false=>
   have aq:=Xu ac;refine aA (fun _=>?_) (fun hb=>by rw[aq]at hb;simp at hb);simp only[go_sem,h4];refine aG A (by simp) ?_;simp only[go_sem,h4];have e:EE x r=(dT wX EI Fc [],false):=by unfold EE;grind
   rw[e];exact .refl _
  | true=>
   obtain⟨ax,ao⟩:=afL ac;rw[ao]at R9 |-;refine aA (fun hb=>by simp at hb;omega) (fun _=>?_);simp only[go_sem,h6,I,R9];refine aU Rs ⟨rfl,rfl⟩ ⟨rfl,trivial⟩ (by grind[gQ]) (fun j' Z=>?_);have U:i6≠j':=aV I Z;have ag:i4≠j':=aV A Z;replace A:=cM (r':=⟨58,4,List.map eT (gQ x (r.y7.take k))++[eT (bM x v).1]⟩) A F Z;replace I:=cM (r':=⟨58,4,List.map eT (gQ x (r.y7.take k))++[eT (bM x v).1]⟩) I O Z;have ap:aI (aI aa J none) j' (some (⟨58,4,List.map eT (gQ x (r.y7.take k))++[eT (bM x v).1]⟩:Row)) j'=some (Fp (gQ x (r.y7.take (k+1)))):=by
    rw[aY hv]
    grind[gQ,eK]
   simp only[go_sem,h6,];refine bP azO I ⟨by simp,rfl,by simp⟩ ?_;simp only[go_sem,h2,h4,h6,ah,am,af,aQ k];exact⟨⟨k+1,X,rfl,(aF _ _ _ _ E).trans A,⟨j',rfl,(aF _ _ _ _ U.symm).trans ap⟩,aS (p:=fun v=>(bM x v).2=true) hv ac hz⟩,msr X⟩
 ·have ae:=aZ hk ae;subst ae;rw[Xad]at hz Rs;simp only[go_sem,h4,h6,I];refine aG A ⟨by simp,rfl,Xae _⟩ ?_;simp only[go_sem,h4];have e:EE x r=(dT x t r (gQ x r.y7),true):=by simp_all[EE]
  rw[e];exact .tup [.agg (I2 x t r J),boo true] _ (.cons _ _ _ _ (.agg _ _ (aeW ((aF _ _ _ _ F).trans Rs))) (ConvL.refl _))
def lF(rdy sin:Int)(sd:Sheet)(j:Nat):List AV:=[int rdy,int sin,boo sd.rest,int sd.ω,.os j,int sd.end_,int sd.o7]
def X9(a b s j):(lF a b s j).length=7:=(rfl)
def arZ(a b s j):(lF a b s j).getD 0 .any=int a:=(rfl)
def akC(a b s j):(lF a b s j).getD 1 .any=int b:=(rfl)
def anK(a b s j):(lF a b s j).getD 4 .any=.os j:=(rfl)
def arG(a b s j):(lF a b s j).getD 6 .any=int s.o7:=(rfl)
def Wx(a b s j):(lF a b s j).take 7=lF a b s j:=(rfl)
attribute [go_sem] X9 arZ akC anK arG Wx
def SN{H:aM}{j:Nat}{l:Lab}(R:H j=some (At l.x8.times)):ConvL H (lF l.ready l.since l.x8 j) (dR l):=
 .cons _ _ _ _ (.refl _) (.cons _ _ _ _ (.refl _) (.cons _ _ _ _ (.refl _) (.cons _ _ _ _ (.refl _) (.cons _ _ _ _ (.row _ _ _ R (ConvE.refl _)) (ConvL.refl _)))))
def ayD{l:List Tm}{j:Nat}{A:Tm}(h:l[j]?=some A)(b:Bool):(l.map sT).set j (qF ((l.map sT).getD j []) 3 [boo b])=(l.set j ⟨A.arrive,A.begin_,A.ω,b⟩).map sT:=by rw[aC h,List.map_set];rfl
def aBA{l:List Tm}{j:Nat}{A:Tm}(h:l[j]?=some A)(d:Int):(l.map sT).set j (qF ((l.map sT).getD j []) 2 [int d])=(l.set j ⟨A.arrive,A.begin_,d,A.rest⟩).map sT:=by rw[aC h,List.map_set];rfl
def anU(x:Instance)(t:VType)(r:Route)(st:List Stop)(l:Lab)(k:Nat)(b:Bool)(hn:NetOk x.τ)(ap:st.length<=1048576)(hk:k<=st.length)(hl:l.x8.times.length=k):
  PC prog 312 [.agg (dT x t r st),.agg (dR l),int k,boo b] (.tup [.agg (dR (ajD (oG x t st k l b))),int (Ji (oG x t st k l b))]):=by
 refine pcd func312 rfl rfl ?_;simp only[go_sem];refine eJ fun i8 am ar (I:am i8=some (iS (dR FU))) N=>?_
 simp only[go_sem];refine dC ?_;simp only[go_sem];refine bO (fun O H'=>O 2=int k/\O 3=boo b/\O 4=.rp (dT x t r st) 0/\O 5=.rp (dR l) 0/\O 8=.op i8 0 0/\O 10=int (kQ t l b)/\O 11=int (pI l b)/\H' i8=some (iS (dR FU))) ?_ fun K hK=>aA (fun hb=>?_) (fun hb=>?_)
 rotate_left
 ·simp only[go_sem];exact hK _ _ ⟨rfl,rfl,rfl,rfl,rfl,by simp only[go_sem];unfold kQ;rw[if_pos hb];rfl,by simp only[go_sem];simp_all[pI],I⟩
 ·simp only[go_sem];exact hK _ _ ⟨rfl,rfl,rfl,rfl,rfl,by simp only[go_sem];simp_all[kQ],by simp only[go_sem];simp_all[pI],I⟩
 rintro ρ H ⟨h2,h3,h4,h5,Z,aa,af,I⟩;simp only[go_sem,h5,];refine aH fun F ai=>?_
 simp only[go_sem];refine bW ai (by simp[gR]) fun ae (A:ae F=some (iS ([int 0,int 0]++bT l.x8))) N=>?_
 replace I:=N I;obtain⟨ah,I⟩:=I;simp only[go_sem,h5,];refine NC.use (alT l.x8.times (by omega)) fun U an=>?_
 have X:i8≠U:=aV I an;have ab:F≠U:=aV A an;generalize hG:aI ae U _=HG;replace I:=(congrFun hG.symm i8).trans ((aF _ _ _ _ X).trans I);replace A:=(congrFun hG.symm F).trans ((aF _ _ _ _ ab).trans A);have J:HG U=some (At l.x8.times):=by rw[<-hG,aB]
 simp only[go_sem];refine bP Zp A ⟨by simp,rfl,by simp⟩ ?_;generalize E:aI _ F _=HP;replace I:=kpA E (by omega) I;replace J:=kpA E (by omega) J;replace A:HP F=some (iS (lF 0 0 l.x8 U)):=upS E;simp only[go_sem,h2,];refine bO (fun O H'=>O 2=int k/\O 4=.rp (dT x t r st) 0/\O 8=.op i8 0 0/\O 10=int (kQ t l b)/\O 11=int (pI l b)/\O 12=.op F 0 0/\H' i8=some (iS (dR FU))/\H' F=some (iS (lF 0 0 (dQ l.x8 k b (kQ t l b)) U))/\H' U=some (At (dQ l.x8 k b (kQ t l b)).times)) ?_ fun K hK=>aA (fun hb=>?_) (fun hb=>?_)
 rotate_left
 ·have h0:k=0:=by grind
  subst h0;simp only[go_sem,h3,];refine bP so4 A ⟨by simp,rfl,by simp⟩ ?_;generalize E:aI _ F _=HP;replace I:=kpA E (by omega) I;replace J:=kpA E (by omega) J;replace A:HP F=some (iS (lF 0 0 { l.x8 with rest:=b } U)):=upS E;simp only[go_sem,aa,];refine bP so3 A ⟨by simp,rfl,by simp⟩ ?_;generalize E:aI _ F _=HP;replace I:=kpA E (by omega) I;replace J:=kpA E (by omega) J;replace A:HP F=some (iS (lF 0 0 { l.x8 with rest:=b,ω:=kQ t l b } U)):=upS E;simp only[go_sem];exact hK _ _ ⟨h2,h4,Z,aa,af,rfl,I,A,J⟩
 ·obtain⟨j,rfl⟩:∃j,k=j+1:=⟨k-1,by grind⟩;have w:IntKind.i64.wrap (((j+1:Nat):Int)-1)=(j:Int):=by grind[aW]
  obtain⟨tm,aq⟩:=aK (show j<l.x8.times.length by omega);have b1:=inB (show j<l.x8.times.length by omega);have eg:l.x8.times.getD j YB=tm:=by grind
  simp only[go_sem,h2,h3,A,J,w];refine⟨⟨b1.1,b1.2⟩,bP so4 J ⟨by grind,rfl,by simp⟩ ?_⟩;generalize E:aI _ U _=HP;replace I:=kpA E (by omega) I;replace A:=kpA E (by omega) A;replace J:HP U=some (At (l.x8.times.set j ⟨tm.arrive,tm.begin_,tm.ω,b⟩)):=by rw[<-E,aB];exact congrArg (fun es=>some (⟨363,4,es⟩:Row)) (ayD aq b)
  clear E;simp only[go_sem,h2,aa,w,J,A];have al:(l.x8.times.set j ⟨tm.arrive,tm.begin_,tm.ω,b⟩)[j]?=some ⟨tm.arrive,tm.begin_,tm.ω,b⟩:=by grind
  refine⟨⟨b1.1,by grind⟩,bP so3 J ⟨by grind,rfl,by simp⟩ ?_⟩;generalize E:aI _ U _=HP;replace I:=kpA E (by omega) I;replace A:=kpA E (by omega) A;replace J:HP U=some (At ((l.x8.times.set j ⟨tm.arrive,tm.begin_,tm.ω,b⟩).set j ⟨tm.arrive,tm.begin_,kQ t l b,b⟩)):=by rw[<-E,aB];exact congrArg (fun es=>some (⟨363,4,es⟩:Row)) (aBA al _)
  clear E;simp only[go_sem];refine hK _ _ ⟨h2,h4,Z,aa,af,rfl,I,A,?_⟩
  grind[List.set_set,dQ]
 rintro ρ H ⟨h2,h4,Z,aa,af,T,I,A,J⟩;generalize hD:kQ t l b=D at *;have E:=aqZ x t r st k hk ap;rcases Xbd k st.length with ao|av
 ·obtain⟨s,hs⟩:=aK ao;have b1:=inB ao;have aj:((k:Int) == (st.length:Int))=false:=by grind
  have eS:oG x t st k l b=qB x t (vA t st k) s k l b:=by grind[oG]
  rw[eS];unfold qB pU nZ goL;simp only[hD];generalize hg:gI x.τ t.o6 (vA t st k) s.place D=g;simp only[go_sem,h2,h4,aj];refine aA (fun _=>?_) (fun hb=>by simp at hb);simp only[go_sem,h2,h4,aC hs,b1];refine dC ?_;simp only[go_sem,h2,h4,];refine⟨_,E.q rfl,?_⟩;simp only[go_sem,aa,];refine⟨_,(ajF x.τ t.o6 (vA t st k) s.place D hn).q rfl,?_⟩;rw[hg];simp only[go_sem];apply aA <;> intro he
  ·simp only[go_sem,Z];refine aG I (by simp) ?_;simp only[go_sem,Z];rw[if_pos he];exact .refl _
  rw[if_neg (by grind)];simp only[go_sem,T,A];refine bP so3 A ⟨by simp,rfl,by simp⟩ ?_;generalize E:aI _ F _=HP;replace I:=kpA E (by omega) I;replace J:=kpA E (by omega) J;replace A:HP F=some (iS (lF 0 0 { dQ l.x8 k b D with o7:=W ((dQ l.x8 k b D).o7+g.2.1) } U)):=upS E;simp only[go_sem,aa,af,T,];refine bP so3 A ⟨by simp,rfl,by simp⟩ ?_;generalize E:aI _ F _=HP;replace I:=kpA E (by omega) I;replace J:=kpA E (by omega) J;replace A:HP F=some (iS (lF 0 (W (W (pI l b+g.1)-D)) { dQ l.x8 k b D with o7:=W ((dQ l.x8 k b D).o7+g.2.1) } U)):=upS E;simp only[go_sem];refine aA (fun hb=>by simp at hb) (fun _=>?_);simp only[go_sem,h2,h4,aC hs,b1];refine aL (Zy s g.1) ?_;simp only[go_sem];by_cases hw:fX g.1 s.start>s.close
  ·rw[if_pos hw,if_pos hw,if_pos hw];refine aA (fun _=>?_) (fun hb=>by simp at hb);simp only[go_sem,Z];refine aG I (by simp) ?_;simp only[go_sem,Z];exact .refl _
  rw[if_neg hw,if_neg hw,if_neg hw];refine aA (fun hb=>by simp at hb) (fun _=>?_);simp only[go_sem,h2,h4,T,aC hs,b1];refine bP so3 A ⟨by simp,rfl,by simp⟩ ?_;generalize E:aI _ F _=HP;replace I:=kpA E (by omega) I;replace J:=kpA E (by omega) J;replace A:HP F=some (iS (lF (W (fX g.1 s.start+s.ζ)) (W (W (pI l b+g.1)-D)) { dQ l.x8 k b D with o7:=W ((dQ l.x8 k b D).o7+g.2.1) } U)):=upS E;simp only[go_sem,T,A,];refine aU J ⟨rfl,rfl⟩ ⟨rfl,trivial⟩ (by grind[pL]) (fun j' ag=>?_);have Y:i8≠j':=aV I ag;have ac:F≠j':=aV A ag;generalize E:aI (aI _ U none) j' _=HP;replace I:=kpB E Y (by omega) I;replace A:=kpB E ac (by omega) A;have ak:HP j'=some (At ((dQ l.x8 k b D).times++[⟨g.1,fX g.1 s.start,0,false⟩])):=by rw[<-E,aB];(show some (⟨363,4,_⟩:Row)=some ⟨363,4,_⟩;rw[Xaq];rfl)
  clear E ag;simp only[go_sem,T,];refine bP Zp A ⟨by simp,rfl,by simp⟩ ?_;generalize E:aI _ F _=HP;replace I:=kpA E (by omega) I;replace ak:=kpA E (by omega) ak;replace A:HP F=some (iS (lF (W (fX g.1 s.start+s.ζ)) (W (W (pI l b+g.1)-D)) { dQ l.x8 k b D with o7:=W ((dQ l.x8 k b D).o7+g.2.1),times:=(dQ l.x8 k b D).times++[⟨g.1,fX g.1 s.start,0,false⟩] } j')):=upS E;simp only[go_sem,h4,T,A,];apply aA <;> intro hd
  ·rw[if_pos (by grind)];simp only[go_sem,Z];refine aG I (by simp) ?_;simp only[go_sem,Z];exact .refl _
  ·rw[if_neg (by grind)];simp only[go_sem,Z,T,A];refine aG I ⟨by simp,rfl,Xae _⟩ ?_;simp only[go_sem,Z];have hm:=(pL l.x8 k b D).1;have:=fun H=>SN (H:=H) (j:=j') (l:=⟨W (fX g.1 s.start+s.ζ),W (W (pI l b+g.1)-D),{ dQ l.x8 k b D with o7:=W ((dQ l.x8 k b D).o7+g.2.1),times:=(dQ l.x8 k b D).times++[⟨g.1,fX g.1 s.start,0,false⟩] }⟩)
   simp only[hm]at this |-;exact .tup [.agg (lF _ _ _ j'),int 0] _ (.cons _ _ _ _ (.agg _ _ (this _ ((aF _ _ _ _ Y.symm).trans ak))) (ConvL.refl _))
 ·have au:k=st.length:=by omega
  have aj:((k:Int) == (st.length:Int))=true:=by grind
  have eS:oG x t st k l b=xW x t (vA t st k) k l b:=by grind[oG]
  rw[eS];unfold xW pU Ke goL;simp only[hD];generalize hg:gI x.τ t.o6 (vA t st k) t.dst D=g;simp only[go_sem,h2,h4,aj];refine aA (fun hb=>by simp at hb) (fun _=>?_);simp only[go_sem];refine dC ?_;simp only[go_sem,h2,h4,];refine⟨_,E.q rfl,?_⟩;simp only[go_sem,aa,];refine⟨_,(ajF x.τ t.o6 (vA t st k) t.dst D hn).q rfl,?_⟩;rw[hg];simp only[go_sem];apply aA <;> intro he
  ·simp only[go_sem,Z];refine aG I (by simp) ?_;simp only[go_sem,Z];rw[if_pos he];exact .refl _
  rw[if_neg (by grind)];simp only[go_sem,T,A];refine bP so3 A ⟨by simp,rfl,by simp⟩ ?_;generalize E:aI _ F _=HP;replace I:=kpA E (by omega) I;replace J:=kpA E (by omega) J;replace A:HP F=some (iS (lF 0 0 { dQ l.x8 k b D with o7:=W ((dQ l.x8 k b D).o7+g.2.1) } U)):=upS E;simp only[go_sem,aa,af,T,];refine bP so3 A ⟨by simp,rfl,by simp⟩ ?_;generalize E:aI _ F _=HP;replace I:=kpA E (by omega) I;replace J:=kpA E (by omega) J;replace A:HP F=some (iS (lF 0 (W (W (pI l b+g.1)-D)) { dQ l.x8 k b D with o7:=W ((dQ l.x8 k b D).o7+g.2.1) } U)):=upS E;simp only[go_sem];refine aA (fun _=>?_) (fun hb=>by simp at hb);simp only[go_sem,h4,];apply aA <;> intro hw
  ·rw[if_pos (by grind)];simp only[go_sem,Z];refine aG I (by simp) ?_;simp only[go_sem,Z];exact .refl _
  rw[if_neg (by grind)];simp only[go_sem,T];refine bP so3 A ⟨by simp,rfl,by simp⟩ ?_;generalize E:aI _ F _=HP;replace I:=kpA E (by omega) I;replace J:=kpA E (by omega) J;replace A:HP F=some (iS (lF 0 (W (W (pI l b+g.1)-D)) { dQ l.x8 k b D with o7:=W ((dQ l.x8 k b D).o7+g.2.1),end_:=g.1 } U)):=upS E;simp only[go_sem,T,];refine bP so3 A ⟨by simp,rfl,by simp⟩ ?_;generalize E:aI _ F _=HP;replace I:=kpA E (by omega) I;replace J:=kpA E (by omega) J;replace A:HP F=some (iS (lF g.1 (W (W (pI l b+g.1)-D)) { dQ l.x8 k b D with o7:=W ((dQ l.x8 k b D).o7+g.2.1),end_:=g.1 } U)):=upS E;simp only[go_sem,h4,T,A,];apply aA <;> intro hd
  ·rw[if_pos (by grind)];simp only[go_sem,Z];refine aG I (by simp) ?_;simp only[go_sem,Z];exact .refl _
  ·rw[if_neg (by grind)];simp only[go_sem,Z,T,A];refine aG I ⟨by simp,rfl,Xae _⟩ ?_;simp only[go_sem,Z];have hm:=(pL l.x8 k b D).1;have:=fun H=>SN (H:=H) (j:=U) (l:=⟨g.1,W (W (pI l b+g.1)-D),{ dQ l.x8 k b D with o7:=W ((dQ l.x8 k b D).o7+g.2.1),end_:=g.1 }⟩)
   simp only[hm]at this |-;exact .tup [.agg (lF _ _ _ U),int 0] _ (.cons _ _ _ _ (.agg _ _ (this _ ((aF _ _ _ _ X.symm).trans J))) (ConvL.refl _))
end Sq
namespace Sq
open Go.Proofs.Tryz
open Mv (bS bU aS)
def Ec(x:Instance)(t:VType)(st:List Stop):List Bool->Nat->Lab->Except Int Lab
 | [],_,l=>.ok l
 | b::bs,k,l=>match oG x t st k l b with
   | .error e=>.error e
   | .ok l'=>Ec x t st bs (k+1) l'
def JD(e:Except Int Lab):Sheet:=match e with| .ok l=>l.x8| .error _=>bA
theorem NG{x:Instance}{t:VType}{st:List Stop}{k:Nat}{l:Lab}{b:Bool}{e:Int}(h:oG x t st k l b=.error e):e≠0:=by grind[oG,Nh,N9]
def Ja{x:Instance}{t:VType}{st:List Stop}{k:Nat}{l l':Lab}{b:Bool}(E:k<st.length)(A:l.x8.times.length=k)(h:oG x t st k l b=.ok l'):l'.x8.times.length=k+1:=by grind[oG,qB,nZ,pL]
def aAA(x:Instance)(t:VType)(r:Route)(st:List Stop)(bs:List Bool)(hn:NetOk x.τ)(ag:st.length<=1048575)(hb:bs.length<=st.length+1):
  PC prog 260 [.agg (dT x t r st),.sl (bs.map dY)] (.tup [.agg (bT (JD (Ec x t st bs 0 (iK t r)))),int (Ji (Ec x t st bs 0 (iK t r)))]):=by
 refine pcd func260 rfl rfl ?_;simp only[go_sem];refine eJ fun i4 Y af (E:Y i4=some (cZ (bT bA))) N=>?_
 simp only[go_sem];refine aL (US x t r st) ?_;simp only[go_sem];refine aH fun i6 aa=>?_
 simp only[go_sem];refine bW aa (by simp[nF]) fun HGi6 (F:HGi6 i6=some (iS (dR (iK t r)))) N=>?_
 replace E:=N E;obtain⟨T,E⟩:=E;simp only[go_sem];refine⟨fun ρ H=>∃(k:Nat) (l:Lab),k<=bs.length/\ρ 2=.rp (dT x t r st) 0/\ρ 4=.op i4 0 0/\ρ 6=.op i6 0 0/\ρ 13=.sl (bs.map dY)/\ρ 14=int bs.length/\ρ 15=int k/\H i4=some (cZ (bT bA))/\H i6=some (iS (dR l))/\(k<=st.length->l.x8.times.length=k)/\Ec x t st bs 0 (iK t r)=Ec x t st (bs.drop k) k l,fun ρ _=>bs.length-aT (ρ 15),
  ⟨0,iK t r,Xaa _,rfl,rfl,rfl,rfl,rfl,by rfl,E,F,fun _=>rfl,rfl⟩,?_⟩
 rintro ρ H ⟨k,l,hk,h2,Z,h6,X,U,I,E,F,hl,J⟩;simp only[go_sem,U,I];refine aA (fun A=>?_) (fun O=>?_)
 ·have A:=aX A;obtain⟨b,ac⟩:=aK A;have b1:=inB A;rw[FC ac,Ec]at J;simp only[go_sem,h2,h6,X,I,aC ac,b1,dY,F];refine aL (anU x t r st l k b hn (by omega) (by omega) (hl (by omega))) ?_;simp only[go_sem];refine aH fun i9 ab=>?_
  simp only[go_sem];refine bW ab (by simp[nF]) fun HGi9 (R9:HGi9 i9=some (iS (dR (ajD (oG x t st k l b))))) N=>?_
  replace E:=(N E).2;replace F:=(N F).2;simp only[go_sem];cases hs:oG x t st k l b with
  | error e=>rw[hs]at J;have ae:=NG hs;refine aA (fun _=>?_) (fun hb=>by simp[Ji]at hb;exact absurd hb ae);simp only[go_sem,Z];refine aG E (by simp) ?_;simp only[go_sem,Z];rw[J];exact .refl _
  | ok l'=>rw[hs]at J R9;refine aA (fun hb=>by simp[Ji]at hb) (fun _=>?_);simp only[go_sem,h6,R9];refine aG F (by simp[nF]) ?_;generalize hP:aI _ i6 _=HP;replace E:=kpA hP (by omega) E;replace F:HP i6=some (iS (dR l')):=upS hP;simp only[go_sem,h2,Z,h6,X,U,I,aQ k,F,E];exact⟨⟨k+1,l',A,rfl,rfl,fun ah=>Ja (by omega) (hl (by omega)) hs,J⟩,msr A⟩
 ·have O:=aZ hk O;subst O;rw[Xbr,Ec]at J;simp only[go_sem,Z,h6,F];refine aG E (by simp[gR]) ?_;simp only[go_sem,Z];rw[J];exact .refl _
def ayL(l m:Lab):PC prog 315 [.agg (dR l),.agg (dR m)] (boo (Ah l m)):=by refine pcd func315 rfl rfl ?_;simp only[go_sem];exact .refl _
def awF(l m:Lab):PC prog 314 [.agg (dR l),.rp (dR m) 0] (boo (Ah l m)):=by refine pcd func314 rfl rfl ?_;simp only[go_sem];refine aL (ayL l m) ?_;simp only[go_sem];exact .refl _
def Rz{g:Nat}{cap:List AV}{p:Lab->Bool}(l:List Lab)(hl:l.length<=4000000000000000000)(I:aE prog g=true)(X:∀v∈l,PC prog g (.agg (dR v)::cap) (boo (p v))):
  PC prog 352 [.sl (l.map dR),.fn g cap] (int (vV p l 0)):=by
 refine pcd func352 rfl rfl ?_;simp only[go_sem];refine⟨fun ρ _=>∃k:Nat,k<=l.length/\ρ 0=.sl (l.map dR)/\ρ 1=.fn g cap/\ρ 7=int l.length/\ρ 8=int k/\∀u∈l.take k,p u=false,fun ρ _=>l.length-aT (ρ 8),⟨0,Xaa _,rfl,rfl,rfl,rfl,by simp⟩,?_⟩;rintro ρ H ⟨k,Y,h0,h1,O,F,T⟩;simp only[go_sem,O,F];refine aA (fun A=>?_) (fun E=>?_)
 ·have A:=aX A;obtain⟨u,J⟩:=aK A;have U:=inB A;simp only[go_sem,h0,h1,F,aC J,U,I];refine aL (X u (Xab J)) ?_;simp only[go_sem];apply aA <;> intro Z
  ·simp only[go_sem]
   grind[bS,nS]
  ·simp only[go_sem,h0,h1,O,F,aQ k];exact⟨⟨k+1,A,rfl,aS (p:=fun u=>p u=false) J Z T⟩,msr A⟩
 ·have E:=aZ Y E;subst E;rw[Xad]at T;simp only[go_sem]
  grind[bS,mF]
def Jv{g:Nat}{cap:List AV}{p:Lab->Bool}(l:List Lab)(F:l.length<=4000000000000000000)(A:aE prog g=true)(E:∀v∈l,PC prog g (.agg (dR v)::cap) (boo (p v))):
  PC prog 313 [.sl (l.map dR),.fn g cap] (boo (l.any p)):=by
 refine pcd func313 rfl rfl ?_;simp only[go_sem];refine aL (Rz l F A E) ?_;simp only[go_sem];simp[bU,rO]
def rB(x:Instance)(t:VType)(st:List Stop)(k:Nat)(out:List Lab)(l:Lab)(bs:List Bool):List Lab:=(bs.map fun b=>oG x t st k l b).foldl Ab out
def KJ(x:Instance)(t:VType)(r:Route)(st:List Stop)(ls:List Lab)(k:Nat):List Lab:=ls.foldl (fun out l=>rB x t st k out l (fM r.o5 k)) []
def asW(out:List Lab)(e:Except Int Lab):(Ab out e).length<=out.length+1:=by
 unfold Ab
 grind
theorem I8(f:List Bool)(k:Nat):(fM f k).length<=2:=by grind[fM]
theorem He(x:Instance)(t:VType)(st:List Stop)(k:Nat)(l:Lab):∀(bs:List Bool) (out:List Lab),(rB x t st k out l bs).length<=out.length+bs.length
 | [],out=>by simp[rB]
 | b::bs,out=>by have:=He x t st k l bs (Ab out (oG x t st k l b));have A:=asW out (oG x t st k l b);simp only[rB,Xav,List.foldl_cons,Xag]at this |-;omega
def GK(x:Instance)(t:VType)(r:Route)(st:List Stop)(k:Nat):∀(A:List Lab) (out:List Lab),(A.foldl (fun out l=>rB x t st k out l (fM r.o5 k)) out).length<=out.length+2*A.length
 | [],out=>by simp
 | l::A,out=>by
  have:=GK x t r st k A (rB x t st k out l (fM r.o5 k))
  grind[He,I8]
abbrev abZ(l:List Lab):Row:=⟨292,7,l.map dR⟩
def Kh:∀l:List Lab,cT 7 (l.map dR)
 | []=>trivial
 | _::r=>⟨rfl,Kh r⟩
def Mo:∀l:List Bool,cT 1 (l.map dY)
 | []=>trivial
 | _::r=>⟨rfl,Mo r⟩
def WR{x:Instance}{t:VType}{st:List Stop}{k m:Nat}{out:List Lab}{l:Lab}{bs:List Bool}{b:Bool}(h:bs[m]?=some b):rB x t st k out l (bs.take (m+1))=Ab (rB x t st k out l (bs.take m)) (oG x t st k l b):=by simp_all[rB,aY]
def aBt(x:Instance)(t:VType)(r:Route)(st:List Stop)(J:List Lab)(k:Nat)(hn:NetOk x.τ)(ay:st.length<=1048575)(hk:k<=st.length)(a0:J.length<=4194304)(hl:∀l∈J,l.x8.times.length=k):
  PC prog 259 [.agg (dT x t r st),.sl (J.map dR),int k] (.sl ((KJ x t r st J k).map dR)):=by
 refine pcb (fun t=>t == 8) func259 rfl rfl ?_;simp only[go_sem];refine bO (fun ac H'=>ac 1=.sl (J.map dR)/\ac 2=int k/\ac 3=.rp (dT x t r st) 0/\ac 7=.sl ((fM r.o5 k).map dY)) ?_ fun K hK=>aA (fun hb=>?_) (fun hb=>?_)
 rotate_left
 ·have hb:k<r.o5.length:=by grind
  simp only[go_sem,aQ k];refine⟨⟨by omega,Mo _⟩,hK _ _ ⟨rfl,rfl,rfl,?_⟩⟩;simp only[go_sem];have:fM r.o5 k=(r.o5.take (k+1)).drop k:=by
   obtain⟨c,hc⟩:=aK hb;unfold fM;rw[if_pos hb,aY hc,List.drop_append_of_le_length (by grind),List.drop_of_length_le (by grind)]
   grind
  simp_all
 ·have hb:¬k<r.o5.length:=by grind
  simp only[go_sem];refine hK _ _ ⟨rfl,rfl,rfl,?_⟩;simp only[go_sem];unfold fM;rw[if_neg hb];rfl
 rintro ρ H ⟨h1,h2,h3,h7⟩;simp only[go_sem];refine aH fun j0 ax=>?_
 simp only[go_sem,h1,];have av:=I8 r.o5 k;generalize hC:fM r.o5 k=cs at *;refine⟨fun ρ H=>∃(n:Nat) (j:Nat),n<=J.length/\ρ 2=int k/\ρ 3=.rp (dT x t r st) 0/\ρ 7=.sl (cs.map dY)/\ρ 29=.sl (J.map dR)/\ρ 30=int J.length/\ρ 31=int n/\ρ 8=.os j/\H j=some (abZ ((J.take n).foldl (fun out l=>rB x t st k out l cs) [])),fun ρ _=>J.length-aT (ρ 31),
  ⟨0,j0,Xaa _,h2,h3,h7,rfl,rfl,by rfl,rfl,aB _ _ _⟩,?_⟩
 rintro ρ H ⟨n,j,ar,h2,h3,h7,O,U,I,h8,R⟩;simp only[go_sem,U,I];refine aA (fun X=>?_) (fun ah=>?_)
 ·have X:=aX X;obtain⟨l,ak⟩:=aK X;have b1:=inB X;have aq:=hl l (Xab ak);have aw:((J.take n).foldl (fun out l=>rB x t st k out l cs) []).length<=2*n:=by
   have:=GK x t r st k (J.take n) []
   grind
  have ao:(J.take (n+1)).foldl (fun out l=>rB x t st k out l cs) []=rB x t st k ((J.take n).foldl (fun out l=>rB x t st k out l cs) []) l cs:=nL ak;generalize hO:(J.take n).foldl (fun out l=>rB x t st k out l cs) []=out0 at *;simp only[go_sem,O,I,aC ak,b1];refine aH fun Y ag=>?_
  simp only[go_sem];refine bW ag (by simp[nF]) fun aj (F:aj Y=some (iS (dR l))) N=>?_
  replace R:=N R;obtain⟨A,R⟩:=R;simp only[go_sem,h7,];refine⟨fun ρ H=>∃(m:Nat) (j:Nat),m<=cs.length/\ρ 2=int k/\ρ 3=.rp (dT x t r st) 0/\ρ 7=.sl (cs.map dY)/\ρ 10=.op Y 0 0/\ρ 29=.sl (J.map dR)/\ρ 30=int J.length/\ρ 31=int n/\ρ 35=.sl (cs.map dY)/\ρ 36=int cs.length/\ρ 37=int m/\ρ 8=.os j/\j≠Y/\H Y=some (iS (dR l))/\H j=some (abZ (rB x t st k out0 l (cs.take m))),fun ρ _=>cs.length-aT (ρ 37),
   ⟨0,j,Xaa _,h2,h3,h7,rfl,O,U,I,rfl,rfl,by rfl,h8,A,F,R⟩,?_⟩
  rintro ρ H ⟨m,j,hm,h2,h3,h7,af,O,U,I,ab,ae,Z,h8,A,F,R⟩;simp only[go_sem,ae,Z];refine aA (fun E=>?_) (fun aa=>?_)
  ·have E:=aX E;obtain⟨b,am⟩:=aK E;have b2:=inB E;have au:=He x t st k l (cs.take m) out0;have hf:=WR (x:=x) (t:=t) (st:=st) (k:=k) (out:=out0) (l:=l) am;have az:(cs.take m).length<=2:=by grind
   simp only[go_sem,h2,h3,af,ab,Z,aC am,b2,dY,F];refine aL (anU x t r st l k b hn (by omega) hk aq) ?_;simp only[go_sem];refine aH fun ap ai=>?_
   simp only[go_sem];refine bW ai (by simp[nF]) fun HGi13 (R13:HGi13 ap=some (iS (dR (ajD (oG x t st k l b))))) N=>?_
   replace F:=(N F).2;replace R:=(N R).2;simp only[go_sem,h8,];generalize hF:rB x t st k out0 l (cs.take m)=out at *;cases hs:oG x t st k l b with
   | error e=>
    rw[hs]at hf R13;have an:(e == 0)=false:=by grind[NG]
    refine⟨boo false,fun hg=>by grind[Ji],?_⟩;simp only[go_sem,Ji,an];refine aA (fun hb=>by simp at hb) (fun _=>?_);simp only[go_sem,h2,h3,h7,af,O,U,I,ab,ae,Z,h8,aQ m];exact⟨⟨m+1,j,E,rfl,rfl,A,F,by rw[hf];exact R⟩,by grind[aJ]⟩
   | ok l'=>
    rw[hs]at hf R13;refine⟨_,fun _=>.inl ⟨[.sl (out.map dR),.fn 314 [.rp (dR l') 0]],.cons _ _ _ _ (.row _ _ _ R (ConvE.refl _)) (.cons _ _ _ _ (.fn _ _ _ (.cons _ _ _ _ (.ptr _ _ _ _ _ R13 (by simp) (ConvL.refl _)) .nil)) .nil),Jv out (by omega) (by rfl) fun v _=>awF v l',rfl⟩,?_⟩;simp only[go_sem,Ji,];apply aA <;> intro hb
    ·have hb:(out.any fun v=>Ah v l')=false:=by grind
     simp only[go_sem,h8,R13];refine aU R ⟨rfl,rfl⟩ ⟨rfl,trivial⟩ (by grind) (fun j' al=>?_);have T:Y≠j':=aV F al;simp only[go_sem,h2,h3,h7,af,O,U,I,ab,ae,Z,aQ m];refine⟨⟨m+1,j',E,rfl,rfl,T.symm,cM F A al,?_⟩,by grind[aJ]⟩;have e1:Ab out (.ok l')=out++[l']:=by
      show(if(out.any fun v=>Ah v l')=true then out else out++[l'])=_
      grind
     rw[hf,e1];exact eK (l':=[l']) rfl
    ·have hb:(out.any fun v=>Ah v l')=true:=by grind
     simp only[go_sem,h2,h3,h7,af,O,U,I,ab,ae,Z,h8,aQ m];refine⟨⟨m+1,j,E,rfl,rfl,A,F,?_⟩,by grind[aJ]⟩;simp_all[Ab]
  ·have aa:=aZ hm aa;subst aa;rw[Xad]at R;simp only[go_sem,h2,h3,h7,O,U,I,h8,aQ n];exact⟨⟨n+1,j,X,rfl,rfl,by grind⟩,msr X⟩
 ·have ah:=aZ ar ah;subst ah;rw[Xad]at R;simp only[go_sem,h8];unfold KJ;rw[hC];exact .row _ _ _ R (ConvE.refl _)
def dpP(x:Instance)(t:VType)(r:Route)(st:List Stop):Nat->List Lab
 | 0=>[iK t r]
 | k+1=>KJ x t r st (dpP x t r st k) k
def oF(b m:Lab):Lab:=if decide (m.x8.end_<b.x8.end_)=true then m else b
def FS(x:Instance)(t:VType)(r:Route):Sheet×Int:=match dpP x t r (gQ x r.y7) (r.y7.length+1)with
 | []=>(JD (Ec x t (gQ x r.y7) (dE r) 0 (iK t r)),Ji (Ec x t (gQ x r.y7) (dE r) 0 (iK t r)))
 | l0::ls=>((ls.foldl oF l0).x8,0)
def mK(x:Instance)(r:Route):Sheet×Int:=
 if(!cC x r||decide ((r.o5.length:Int)>(r.y7.length:Int)+1))=true then(bA,2)else match x.types[r.type.toNat]? with
 | some t=>FS x t r
 | none=>(bA,2)
def amY{out:List Lab}{e:Except Int Lab}{m:Lab}(h:m∈Ab out e):m∈out\/e=.ok m:=by
 unfold Ab at h
 grind
theorem Pb{x:Instance}{t:VType}{st:List Stop}{k:Nat}{l m:Lab}:∀(bs:List Bool) (out:List Lab),m∈rB x t st k out l bs->m∈out\/∃b,oG x t st k l b=.ok m
 | [],out,h=>.inl h
 | b::bs,out,h=>by
  rcases Pb bs (Ab out (oG x t st k l b)) h with h|h
  ·rcases amY h with h|h
   ·exact .inl h
   ·exact .inr ⟨b,h⟩
  ·exact .inr h
def Oj{x:Instance}{t:VType}{r:Route}{st:List Stop}{k:Nat}{m:Lab}:∀(A:List Lab) (out:List Lab),m∈A.foldl (fun out l=>rB x t st k out l (fM r.o5 k)) out->m∈out\/∃l∈A,∃b,oG x t st k l b=.ok m
 | [],out,h=>.inl h
 | l::A,out,h=>by
  rcases Oj A _ h with h|⟨l',E,b,F⟩
  all_goals grind[Pb]
def Pg{x:Instance}{t:VType}{r:Route}{st:List Stop}:∀(k:Nat),k<=st.length->∀l∈dpP x t r st k,l.x8.times.length=k
 | 0,_,l,h=>by simp[dpP]at h;subst h;rfl
 | k+1,hk,l,h=>by
  rcases Oj _ _ h with h|⟨l',A,b,E⟩
  ·simp at h
  ·exact Ja (by omega) (Pg k (by omega) l' A) E
def abL(x:Instance)(t:VType)(r:Route)(st:List Stop):∀k:Nat,(dpP x t r st k).length<=2^k
 | 0=>by simp[dpP]
 | k+1=>by have h1:=GK x t r st k (dpP x t r st k) [];have A:=abL x t r st k;rw[Xbo];simp only[dpP,KJ]at h1 |-;simp at h1;omega
def XE(x:Instance)(r:Route):∃E t' r' A,EE x r=(dT E t' r' A,cC x r)/\(cC x r=true->E=x/\r'=r/\A=gQ x r.y7/\x.types[r.type.toNat]?=some t'):=by
 unfold EE;cases F:cC x r with
 | false=>grind
 | true=>have:=tW F;simp_all;grind
def aAT(x:Instance)(r:Route)(hn:NetOk x.τ)(hr:r.y7.length<=1048576):PC prog 194 [.agg (aD x),.agg (bJ r)] (.tup [.agg (bT (mK x r).1),int (mK x r).2]):=by
 have w:IntKind.i64.wrap ((r.y7.length:Int)+1)=(r.y7.length:Int)+1:=aW (by omega);refine pcb (fun t=>t == 57) func194 rfl rfl ?_;simp only[go_sem];refine eJ fun i4 an a4 (A:an i4=some (cZ (bT bA))) N=>?_
 simp only[go_sem];refine aL (aBb x r hr) ?_;simp only[go_sem];obtain⟨x',t',r',ay,ax,av⟩:=XE x r;rw[ax];refine aH fun i6 am=>?_
 simp only[go_sem];refine bW am (by simp[I4]) fun ao (T:ao i6=some (BT (dT x' t' r' ay))) N=>?_
 replace A:=(N A).2;simp only[go_sem,w,];apply aA <;> intro h1
 ·simp only[go_sem];refine aG A (by simp) ?_;simp only[go_sem];have e:mK x r=(bA,2):=by simp_all[mK]
  rw[e];exact .refl _
 have hp:cC x r=true:=by grind
 have au:r.o5.length<=r.y7.length+1:=by grind
 have a7:=tW hp;obtain⟨t,ht⟩:=aK (show r.type.toNat<x.types.length by omega);have a0:r.y7.length<=20:=by
  unfold cC at hp
  grind
 have eB:mK x r=FS x t r:=by simp_all[mK,if_neg]
 obtain⟨ex,er,es,Z⟩:=av hp;rw[ex,er,es]at T;rw[ht]at Z;injection Z with Z;rw[<-Z]at T;rw[eB];have a9:(gQ x r.y7).length=r.y7.length:=by simp[gQ]
 have al:=abL x t r (gQ x r.y7);have az:=Pg (x:=x) (t:=t) (r:=r) (st:=gQ x r.y7);unfold FS;generalize hS:gQ x r.y7=st at *;simp only[go_sem,T];refine aL (US x t r st) ?_;simp only[go_sem];refine⟨fun ρ H=>∃k:Nat,k<=r.y7.length+1/\ρ 3=.rp (bJ r) 0/\ρ 4=.op i4 0 0/\ρ 6=.op i6 0 0/\ρ 8=int ((r.y7.length:Int)+1)/\ρ 38=int ((r.y7.length:Int)+1)/\ρ 39=int k/\ρ 9=.sl ((dpP x t r st k).map dR)/\H i4=some (cZ (bT bA))/\H i6=some (BT (dT x t r st)),fun ρ _=>r.y7.length+1-aT (ρ 39),
  ⟨0,Xaa _,rfl,rfl,rfl,rfl,rfl,by rfl,by rfl,A,T⟩,?_⟩
 rintro ρ H ⟨k,hk,h3,X,h6,h8,aq,ag,h9,A,T⟩;simp only[go_sem,aq,ag];refine aA (fun F=>?_) (fun I=>?_)
 ·have F:k<=r.y7.length:=by grind
  simp only[go_sem,h6,ag,h9,T];have a8:2^k<=2^20:=Xah (by decide) (by omega);have:=al k;refine aL (aBt x t r st (dpP x t r st k) k hn (by omega) (by omega) (by omega) (az k (by omega))) ?_;simp only[go_sem,h3,X,h6,h8,aq,ag,aQ k];exact⟨⟨k+1,by omega,rfl,rfl,A,T⟩,by grind[aJ]⟩
 have I:k=r.y7.length+1:=by grind
 subst I;simp only[go_sem,h9];cases hd:dpP x t r st (r.y7.length+1)with
 | nil=>
  rw[hd]at h9;refine aA (fun _=>?_) (fun hb=>by simp at hb);simp only[go_sem,h8];refine⟨⟨by omega,by omega⟩,aH fun j hj=>?_⟩;simp only[go_sem,h3,];have aw:(((r.y7.length:Int)+1)).toNat=r.y7.length+1:=by omega
  refine ZX aBh (aB _ _ _) (.inl ⟨rfl,rfl,rfl⟩) (.inl rfl) rfl (Mo _) ?_;have J:=aV A hj;have ak:=aV T hj;generalize hG:aI (aI H j _) j _=H1;have Rj:H1 j=some (JU (dE r)):=by rw[<-hG,aB,aw];exact congrArg (fun es=>some (⟨4,1,es⟩:Row)) (LY au)
  replace A:=(congrFun hG.symm i4).trans (sR A hj);replace T:=(congrFun hG.symm i6).trans (sR T hj);simp only[go_sem,h6,T];refine Dz rfl Rj fun Hr ba hr=>?_
  replace A:=(hr i4 J).trans A;simp only[go_sem];refine aL (aAA x t r st (dE r) hn (by omega) (by simp_all[oL])) ?_;simp only[go_sem,X,];refine aG A (by simp[gR]) ?_;simp only[go_sem,X];exact .refl _
 | cons l0 ls=>
  rw[hd]at h9;have a5:=Kh (l0::ls);have a6:(l0::ls).length<=2^21:=by have:=al (r.y7.length+1);rw[hd]at this;exact Xaf this (Xah (by decide) (by omega))
  refine aA (fun hb=>by simp at hb;omega) (fun _=>?_);have b1:(0:Int)<=0/\(0:Int)<((l0::ls).length:Int):=⟨Xbz _,by simp⟩;simp only[go_sem,h9,b1];refine⟨by omega,?_⟩;refine aH fun O ab=>?_
  simp only[go_sem];refine bW ab (by simp[nF]) fun af (E:af O=some (iS (dR l0))) N=>?_
  replace A:=N A;obtain⟨ah,A⟩:=A;simp only[go_sem,h9,];refine⟨⟨by omega,Kh ls⟩,?_⟩;refine⟨fun ρ H=>∃(m:Nat),m<=ls.length/\ρ 4=.op i4 0 0/\ρ 12=.op O 0 0/\ρ 65=.sl (ls.map dR)/\ρ 66=int ls.length/\ρ 67=int m/\H i4=some (cZ (bT bA))/\H O=some (iS (dR ((ls.take m).foldl oF l0))),fun ρ _=>ls.length-aT (ρ 67),
   ⟨0,Xaa _,X,rfl,rfl,rfl,by rfl,A,E⟩,?_⟩
  rintro ρ H ⟨m,hm,X,U,ac,aa,Y,A,E⟩;simp only[go_sem,aa,Y];refine aA (fun F=>?_) (fun I=>?_)
  ·have F:=aX F;obtain⟨l,aj⟩:=aK F;have b2:=inB F;have hf:(ls.take (m+1)).foldl oF l0=oF ((ls.take m).foldl oF l0) l:=nL aj;generalize (ls.take m).foldl oF l0=bl at *;simp only[go_sem,ac,Y,aC aj,b2];refine aH fun ar ae=>?_
   simp only[go_sem];refine bW ae (by simp[nF]) fun ai (ap:ai ar=some (iS (dR l))) N=>?_
   replace A:=(N A).2;replace E:=(N E).2;simp only[go_sem,U,ap,E];apply aA <;> intro hb
   ·simp only[go_sem,U,ap];refine aG E (by simp[nF]) ?_;generalize hP:aI _ O _=HP;replace A:=kpA hP (by omega) A;replace E:HP O=some (iS (dR l)):=upS hP;simp only[go_sem,X,U,ac,aa,Y,mT (show m<=4611686018427387904 by grind),E,A];exact⟨⟨m+1,F,rfl,by simp_all[oF]⟩,msr F⟩
   ·simp only[go_sem,X,U,ac,aa,Y,mT (show m<=4611686018427387904 by grind)];exact⟨⟨m+1,F,rfl,A,by simp_all[oF]⟩,msr F⟩
  ·have I:=aZ hm I;subst I;rw[Xad]at E;simp only[go_sem,X,U,E];refine aG A (by simp[gR]) ?_;simp only[go_sem,X];exact .refl _
def rV(p:Int×Int):List AV:=[int p.1,int p.2]
def Dv(m:List (Int×Int))(o:Int):Option Nat:=m.findIdx? fun p=>p.1 == o
def tU(m:List (Int×Int))(o:Int):Int:=((m.find? fun p=>p.1 == o).map (·.2)).getD 0
def Eb(m:List (Int×Int))(o v:Int):List (Int×Int):=match Dv m o with
 | some i=>m.set i (o,v)
 | none=>m++[(o,v)]
abbrev vF(m:List (Int×Int)):Row:=⟨0,2,m.map rV⟩
def Ap(o:Int):∀(m:List (Int×Int)) (i:Nat),yH (AT prog 3 (int o)) (m.map rV) i=some ((Dv m o).map (·+i))
 | [],i=>rfl
 | p::m,i=>by
  have ih:=Ap o m (i+1);have A:AT prog 3 (int o) ((rV p).getD 0 .any)=some (o == p.1):=by rfl
  rw[Xav,yH,A];unfold Dv at *;rw[List.findIdx?_cons];by_cases h:o=p.1
  ·grind
  ·have h1:(o == p.1)=false:=by grind
   have E:(p.1 == o)=false:=by grind
   rw[h1,E];simp only[Xbe,if_false];rw[ih];cases m.findIdx? (fun p=>p.1 == o)with
   | none=>rfl
   | some j=>grind
def lR(o:Int)(m:List (Int×Int)):yH (AT prog 3 (int o)) (m.map rV) 0=some (Dv m o):=by simp[Ap]
def nU(o:Int):uU prog 3 (int o)=true:=by rfl
def AB(m:List (Int×Int))(o:Int):Qs false (int 0) (m.map rV) (Dv m o)=int (tU m o):=by unfold Qs tU Dv;induction m<;>grind[rV]
def C1(m:List (Int×Int))(o v:Int):ahN (m.map rV) (Dv m o) (int o) (int v)=(Eb m o v).map rV:=by grind[ahN,Eb,rV,List.map_set]
theorem Gg(m:List (Int×Int))(o v q:Int):tU (Eb m o v) q=if q=o then v else tU m q:=by unfold tU Eb Dv;induction m<;>grind
def NJ(a b:Int):PC prog 261 [int a,int b] (boo (a != -1&&a != b)):=by refine pcd func261 rfl rfl ?_;simp only[go_sem];exact .refl _
def T1(l:List Visit)(o:Int):Nat:=l.countP fun v=>v.order == o
def ahL{l:List Visit}{k:Nat}{v:Visit}(h:l[k]?=some v)(o:Int):T1 (l.take (k+1)) o=T1 (l.take k) o+if v.order=o then 1 else 0:=by simp_all[T1,aY]
def avM(l:List Visit)(k:Nat)(o:Int):T1 (l.take k) o<=l.length:=Xaf List.countP_le_length (by grind)
def WQ{l:List Visit}{k:Nat}{v:Visit}(h:l[k]?=some v):sA l k=decide (T1 (l.take k) v.order=0):=by
 have J:=(List.getElem?_eq_some_iff.1 h).1;rw[Xaz];simp only[decide_eq_true_eq];unfold sA T1;rw[List.countP_eq_zero,Xap];constructor
 ·intro I u O;obtain⟨i,F,rfl⟩:=List.getElem_of_mem O;have A:i<k:=by grind
  have:=I i (Xan.2 A)
  grind[jN]
 ·intro I i F;have A:=Xan.1 F;have E:i<l.length:=by omega
  rw[jN h,jN (List.getElem?_eq_getElem E)]
  grind[List.mem_take_iff_getElem]
def awE(x:Instance)(r:Route)(s:Sheet)(hr:r.y7.length<=1048576):PC prog 195 [.agg (aD x),.agg (bJ r),.agg (bT s)] (.agg (bD (oD x r s))):=by
 refine pcd func195 rfl rfl ?_;simp only[go_sem];refine eJ fun i6 ay a8 (F:ay i6=some (nR bK)) N=>?_
 simp only[go_sem];apply aA <;> intro h1
 . have h1:cH r.type x.types.length=true:=h1;simp only[go_sem];refine aG F (by simp) ?_;simp only[go_sem];have e:oD x r s=bK:=by simp_all[oD]
   rw[e];exact .refl _
 have h1:cH r.type x.types.length=false:=h1;have a5:0<=r.type/\r.type<(x.types.length:Int):=by grind
 obtain⟨t,ht⟩:=aK (show r.type.toNat<x.types.length by omega);have e:oD x r s=XP x r s t:=by simp_all[oD]
 rw[e];simp only[go_sem,aC ht,a5];refine aH fun i7 aw=>?_
 simp only[go_sem];refine bW aw (by simp[kD]) fun az (R7:az i7=some (lJ t)) N=>?_
 replace F:=(N F).2;simp only[go_sem,R7];refine⟨by decide,?_⟩;refine aH fun J aj=>?_
 simp only[go_sem];refine bW aj (by simp) fun af (E:af J=some (nR (yD t s))) N=>?_
 replace F:=N F;obtain⟨am,F⟩:=F;simp only[go_sem];refine aH fun jm av=>?_
 have ae:=aV F av;have ab:=aV E av;generalize hG:aI af jm _=HM;have I:HM jm=some (vF []):=by rw[<-hG,aB];rfl
 replace F:=(congrFun hG.symm i6).trans ((aF _ _ _ _ ae).trans F);replace E:=(congrFun hG.symm J).trans ((aF _ _ _ _ ab).trans E);simp only[go_sem];refine ⟨fun ρ H => ∃ (k : Nat) (m : List (Int × Int)), k <= r.y7.length /\ ρ 3 = .rp (aD x) 0 /\ ρ 4 = .rp (bJ r) 0 /\ ρ 6 = .op i6 0 0 /\ ρ 10 = .op J 0 0 /\ ρ 11 = .om jm /\ ρ 59 = .sl (r.y7.map aN) /\ ρ 60 = int r.y7.length /\ ρ 61 = int k /\ H i6 = some (nR bK) /\
     H J=some (nR (((List.range r.y7.length).take k).foldl (gE x r) (yD t s)))/\H jm=some (vF m)/\∀o,tU m o=(T1 (r.y7.take k) o:Nat),fun ρ _=>r.y7.length-aT (ρ 61),
   ⟨0,[],Xaa _,rfl,rfl,rfl,rfl,rfl,rfl,rfl,by rfl,F,E,I,fun o=>rfl⟩,?_⟩
 rintro ρ H ⟨k,m,hk,h3,h4,h6,U,Y,aa,ac,Z,F,E,I,hm⟩;simp only[go_sem,ac,Z];refine aA (fun O=>?_) (fun an=>?_)
 . have O:=aX O;obtain⟨v,hv⟩:=aK O;have b1:=inB O;have hs:((List.range r.y7.length).take (k+1)).foldl (gE x r) (yD t s)=gE x r (((List.range r.y7.length).take k).foldl (gE x r) (yD t s)) k:=by simp_all[aY]
   generalize hA:((List.range r.y7.length).take k).foldl (gE x r) (yD t s)=A at E hs;have ev:gA r.y7 k=v.order:=jN hv;have ba:=WQ hv;have bb:=avM r.y7 k v.order;have a4:=ahL hv;have a9:=hm v.order;have wm:IntKind.i64.wrap (tU m v.order+1)=tU m v.order+1:=aW (by omega);simp only[go_sem,aa,Z,aC hv,b1];refine aH fun a7 aq=>?_
   simp only[go_sem];refine bW aq (by simp[dG]) fun al (ag:al a7=some (⟨97,2,[aN v]⟩)) N=>?_
   replace F:=(N F).2;replace E:=(N E).2;replace I:=N I;obtain⟨ap,I⟩:=I;simp only[go_sem,Y,ag,];refine AO I Ew (nU _) (lR _ _) zv3 ?_;rw[AB];simp only[go_sem,wm];refine JL I Ew (nU _) (lR _ _) ?_;rw[C1];generalize hP:aI _ jm _=HP;replace F:=kpA hP (by omega) F;replace E:=kpA hP (by omega) E;replace ag:=kpA hP (by omega) ag;replace I:HP jm=some (vF (Eb m v.order (tU m v.order+1))):=by rw[<-hP,aB];skip
   simp only[go_sem,h3,Y,ag];have au:∀o,tU (Eb m v.order (tU m v.order+1)) o=(T1 (r.y7.take (k+1)) o:Nat):=fun o=>by
     rw[Gg,a4 o,hm o,hm v.order]
     grind
   refine AO I Ew (nU _) (lR _ _) zv3 ?_;rw[AB,Gg,if_pos rfl];have ah:(cH v.order x.y5.length||decide (tU m v.order+1>1))=(cH v.order x.y5.length|| !sA r.y7 k):=by grind
   simp only[go_sem];apply aA <;> intro hb
   . have ax:(cH v.order x.y5.length|| !sA r.y7 k)=true:=ah▸hb;have e:gE x r A k=A:=by simp_all[gE]
     simp only[go_sem,h3,h4,h6,U,Y,aa,ac,Z,aQ k];exact⟨⟨k+1,_,O,rfl,F,by grind,I,au⟩,msr O⟩
   have ax:(cH v.order x.y5.length|| !sA r.y7 k)=false:=ah▸hb;have bc:cH v.order x.y5.length=false:=(Xam.1 ax).1;have a6:0<=v.order/\v.order<(x.y5.length:Int):=by grind
   obtain⟨o,ho⟩:=aK (show v.order.toNat<x.y5.length by omega);have e:gE x r A k=A5 o r.type (B7 o r.type A):=by simp_all[gE]
   rw[e]at hs;simp only[go_sem,h3,ag,aC ho,a6];refine aH fun ak ao=>?_
   simp only[go_sem];refine bW ao (by simp[nI]) fun ar (X:ar ak=some (oO o)) N=>?_
   replace F:=(N F).2;replace E:=N E;obtain⟨ai,E⟩:=E;replace I:=(N I).2;simp only[go_sem,h4,X,];refine aL (NJ o.now r.type) ?_;simp only[go_sem];refine bO (fun T H'=>T 3=.rp (aD x) 0/\T 4=.rp (bJ r) 0/\T 6=.op i6 0 0/\T 10=.op J 0 0/\T 11=.om jm/\T 14=.op ak 0 0/\T 59=.sl (r.y7.map aN)/\T 60=int r.y7.length/\T 61=int k/\H' i6=some (nR bK)/\H' ak=some (oO o)/\H' jm=some (vF (Eb m v.order (tU m v.order+1)))/\H' J=some (nR (B7 o r.type A))) ?_ fun K hK=>aA (fun hb=>?_) (fun hb=>?_)
   rotate_left
   . simp only[go_sem,U,E];refine bP so3 E ⟨by simp,rfl,by simp⟩ ?_;generalize hP:aI _ J _=HP;replace F:=kpA hP (by omega) F;replace X:=kpA hP (by omega) X;replace I:=kpA hP (by omega) I;replace E:HP J=some (nR (B7 o r.type A)):=by rw[<-hP,aB];(rw[B7,if_pos (show Kv o r.type=true from hb)];rfl)
     simp only[go_sem];exact hK _ _ ⟨h3,h4,h6,U,Y,rfl,aa,ac,Z,F,X,I,E⟩
   . simp only[go_sem];refine hK _ _ ⟨h3,h4,h6,U,Y,rfl,aa,ac,Z,F,X,I,?_⟩;simp_all[B7,if_neg,Kv]
   rintro ρ H ⟨h3,h4,h6,U,Y,a0,aa,ac,Z,F,X,I,E⟩;simp only[go_sem,h4,a0,X];refine aL (NJ o.last r.type) ?_;simp only[go_sem];apply aA <;> intro hb
   . simp only[go_sem,U,E];refine bP so3 E ⟨by simp,rfl,by simp⟩ ?_;generalize hP:aI _ J _=HP;replace F:=kpA hP (by omega) F;replace X:=kpA hP (by omega) X;replace I:=kpA hP (by omega) I;replace E:HP J=some (nR (A5 o r.type (B7 o r.type A))):=by rw[<-hP,aB];(rw[A5,if_pos (show Lq o r.type=true from hb)];rfl)
     simp only[go_sem,h3,h4,h6,U,Y,aa,ac,Z,aQ k,E,F,I];exact⟨⟨k+1,Eb m v.order (tU m v.order+1),O,rfl,by rw[hs],rfl,au⟩,msr O⟩
   . simp only[go_sem,h3,h4,h6,U,Y,aa,ac,Z,aQ k];exact⟨⟨k+1,_,O,rfl,F,by simp_all[A5,Lq],I,au⟩,msr O⟩
 . have an:=aZ hk an;subst an;rw[Xai (by simp)]at E;simp only[go_sem,h6,U,E];refine aG F (by simp[cP]) ?_;simp only[go_sem,h6];exact .refl _
def EH(x:Instance)(r:Route)(v:Visit):Bool:=match x.types[r.type.toNat]?,x.y5[v.order.toNat]? with
 | some t,some o=>yW t.l7 o.l7
 | _,_=>false
def I0(x:Instance)(r:Route):Int:=if(r.y7.any fun v=> !EH x r v)=true then 18 else 0
def auD(x:Instance)(r:Route)(hr:r.y7.length<=1048576)(X:0<=r.type/\r.type<(x.types.length:Int))(Y:∀v∈r.y7,0<=v.order/\v.order<(x.y5.length:Int)):
  PC prog 192 [.agg (aD x),.agg (bJ r)] (int (I0 x r)):=by
 obtain⟨t,ht⟩:=aK (show r.type.toNat<x.types.length by omega);refine pcd func192 rfl rfl ?_;simp only[go_sem];refine⟨fun ρ _=>∃k:Nat,k<=r.y7.length/\ρ 2=.rp (aD x) 0/\ρ 3=.rp (bJ r) 0/\ρ 8=.sl (r.y7.map aN)/\ρ 9=int r.y7.length/\ρ 10=int k/\∀v∈r.y7.take k,(!EH x r v)=false,fun ρ _=>r.y7.length-aT (ρ 10),⟨0,Xaa _,rfl,rfl,rfl,rfl,rfl,by simp⟩,?_⟩;rintro ρ H ⟨k,hk,h2,h3,Z,h9,I,hz⟩;simp only[go_sem,h9,I];refine aA (fun A=>?_) (fun F=>?_)
 ·have A:=aX A;obtain⟨v,O⟩:=aK A;have b1:=inB A;have T:=Y v (Xab O);obtain⟨o,ho⟩:=aK (show v.order.toNat<x.y5.length by omega);have es:EH x r v=yW t.l7 o.l7:=by grind[EH]
  simp only[go_sem,Z,I,aC O,b1];refine aH fun U E=>?_
  simp only[go_sem];refine bW E (by simp[dG]) fun J (R6:J U=some (⟨97,2,[aN v]⟩)) N=>?_
  clear N E;simp only[go_sem];refine gS [U] [(0,true),(1,true),(2,true),(3,true),(4,true),(5,true),(6,true),(7,true),(8,true),(9,true),(10,true),(11,true),(12,true),(13,true),(14,true)] (by grind) (by kernel_rfl) fun Hp Hr hp aa _ ab=>?_
  have P6:=(hp U (by simp)).trans R6;simp only[go_sem,h2,h3,P6,aC ht,X,aC ho,T];refine⟨_,(aAM t o.l7).q rfl,?_⟩;simp only[go_sem];refine dO fun _ Hm _ _=>?_
  simp only[go_sem];apply aA <;> intro hb
  ·simp only[go_sem];exact bS (by unfold I0;grind)
  ·simp only[go_sem,h2,h3,Z,h9,I,aQ k];exact⟨⟨k+1,A,rfl,aS (p:=fun v=>(!EH x r v)=false) O (by grind) hz⟩,msr A⟩
 ·have F:=aZ hk F;subst F;rw[Xad]at hz;simp only[go_sem];simp_all[bS,I0]
def fK(x:Instance)(r:Route):Sheet×Score×Int:=
 if cH r.type x.types.length=true then(bA,bK,2)
 else if(sZ x r.y7 != 0)=true then(bA,bK,sZ x r.y7)
 else if(I0 x r != 0)=true then(bA,bK,I0 x r)
 else if(Dg x r != 0)=true then(bA,bK,Dg x r)
 else if((mK x r).2 != 0)=true then(bA,bK,(mK x r).2)
 else((mK x r).1,oD x r (mK x r).1,0)
structure EvalB(x:Instance):Prop where
 τ:NetOk x.τ
 load:LoadB x
 apart:x.apart.length<=1048576
 before:x.before.length<=1048576
abbrev fnsL:List (List AV):=[[.v (.func (.func 191) #[] #[])],[.v (.func (.func 192) #[] #[])],[.v (.func (.func 193) #[] #[])]]
def EF(x:Instance)(r:Route)(hx:EvalB x)(hr:r.y7.length<=1048575):PC prog 134 [.agg (aD x),.agg (bJ r)] (.tup [.agg (bT (fK x r).1),.agg (bD (fK x r).2.1),int (fK x r).2.2]):=by
 refine pcd func134 rfl rfl ?_;simp only[go_sem];refine eJ fun J ag ao (A:ag J=some (cZ (bT bA))) N=>?_
 simp only[go_sem];refine eJ fun I ah ap (F:ah I=some (nR bK)) N=>?_
 replace A:=N A;obtain⟨af,A⟩:=A;simp only[go_sem];apply aA <;> intro h1
 ·have h1:cH r.type x.types.length=true:=h1;simp only[go_sem];refine aG A (by simp) ?_;generalize E:aI _ J _=HP;replace F:=kpA E (by omega) F;replace A:HP J=some (cZ (bT bA)):=upS E;simp only[go_sem];refine aG F (by simp) ?_;generalize E:aI _ I _=HP;replace A:=kpA E (by omega) A;replace F:HP I=some (nR bK):=upS E;simp only[go_sem,F,A];have e:fK x r=(bA,bK,2):=by simp_all[fK]
  rw[e];exact .refl _
 have c1:¬cH r.type x.types.length=true:=by grind[cH]
 have am:0<=r.type/\r.type<(x.types.length:Int):=by grind
 simp only[go_sem];refine⟨fun ρ H=>∃(k:Nat),k<=3/\ρ 2=.rp (aD x) 0/\ρ 3=.rp (bJ r) 0/\ρ 4=.op J 0 0/\ρ 5=.op I 0 0/\ρ 25=.sl fnsL/\ρ 26=int 3/\ρ 27=int k/\H J=some (cZ (bT bA))/\H I=some (nR bK)/\(0<k->sZ x r.y7=0)/\(1<k->I0 x r=0)/\(2<k->Dg x r=0),fun ρ _=>3-aT (ρ 27),
  ⟨0,Xaa _,rfl,rfl,rfl,rfl,rfl,by rfl,by rfl,A,F,fun h=>absurd h (by decide),fun h=>absurd h (by decide),fun h=>absurd h (by decide)⟩,?_⟩
 rintro ρ H ⟨k,hk,Z,h3,T,X,U,Y,O,A,F,q1,q2,q3⟩;simp only[go_sem,Y,O];refine aA (fun an=>?_) (fun ak=>?_)
 ·have an:k<3:=by grind
  have hc:k=0\/k=1\/k=2:=by omega
  rcases hc with rfl|rfl|rfl
  ·simp only[go_sem,Z,h3,U,O];refine⟨by decide,PC.use (J1 x r (by omega) hx.apart hx.before) ?_⟩;simp only[go_sem];apply aA <;> intro hb
   ·have e:fK x r=(bA,bK,sZ x r.y7):=by simp_all[fK]
    simp only[go_sem,T,];refine aG A (by simp) ?_;generalize E:aI _ J _=HP;replace F:=kpA E (by omega) F;replace A:HP J=some (cZ (bT bA)):=upS E;simp only[go_sem,X,];refine aG F (by simp) ?_;generalize E:aI _ I _=HP;replace A:=kpA E (by omega) A;replace F:HP I=some (nR bK):=upS E;simp only[go_sem,T,X,F,A];rw[e];exact .refl _
   ·simp only[go_sem,Z,h3,T,X,U,Y,O];exact⟨⟨1,by decide,rfl,A,F,fun _=>by grind,fun h=>absurd h (by decide),fun h=>absurd h (by decide)⟩,by simp only[aJ];decide⟩
  ·simp only[go_sem,Z,h3,U,O];refine⟨by decide,PC.use (auD x r (by omega) am (aoF (q1 (by decide)))) ?_⟩;simp only[go_sem];apply aA <;> intro hb
   ·have e:fK x r=(bA,bK,I0 x r):=by simp_all[fK]
    simp only[go_sem,T,];refine aG A (by simp) ?_;generalize E:aI _ J _=HP;replace F:=kpA E (by omega) F;replace A:HP J=some (cZ (bT bA)):=upS E;simp only[go_sem,X,];refine aG F (by simp) ?_;generalize E:aI _ I _=HP;replace A:=kpA E (by omega) A;replace F:HP I=some (nR bK):=upS E;simp only[go_sem,T,X,F,A];rw[e];exact .refl _
   ·simp only[go_sem,Z,h3,T,X,U,Y,O];exact⟨⟨2,by decide,rfl,A,F,fun _=>q1 (by decide),fun _=>by grind,fun h=>absurd h (by decide)⟩,by simp only[aJ];decide⟩
  ·simp only[go_sem,Z,h3,U,O];refine⟨by decide,PC.use (auN x r hx.load hr hx.apart hx.before) ?_⟩;simp only[go_sem];apply aA <;> intro hb
   ·have e:fK x r=(bA,bK,Dg x r):=by simp_all[fK]
    simp only[go_sem,T,];refine aG A (by simp) ?_;generalize E:aI _ J _=HP;replace F:=kpA E (by omega) F;replace A:HP J=some (cZ (bT bA)):=upS E;simp only[go_sem,X,];refine aG F (by simp) ?_;generalize E:aI _ I _=HP;replace A:=kpA E (by omega) A;replace F:HP I=some (nR bK):=upS E;simp only[go_sem,T,X,F,A];rw[e];exact .refl _
   ·simp only[go_sem,Z,h3,T,X,U,Y,O];exact⟨⟨3,by decide,rfl,A,F,fun _=>q1 (by decide),fun _=>q2 (by decide),fun _=>by grind⟩,by simp only[aJ];decide⟩
 have ak:k=3:=by grind
 subst ak;have e1:=q1 (by decide);have e2:=q2 (by decide);have e3:=q3 (by decide);have eE:fK x r=if((mK x r).2 != 0)=true then(bA,bK,(mK x r).2)else((mK x r).1,oD x r (mK x r).1,0):=by simp_all[fK]
 rw[eE];simp only[go_sem,Z,h3,];refine aL (aAT x r hx.τ (by omega)) ?_;simp only[go_sem];refine aH fun ae ab=>?_
 simp only[go_sem];refine bW ab (by simp[gR]) fun HGi10 (R10:HGi10 ae=some (cZ (bT (mK x r).1))) N=>?_
 replace A:=N A;obtain⟨ac,A⟩:=A;replace F:=N F;obtain⟨aa,F⟩:=F;simp only[go_sem];apply aA <;> intro hb
 ·rw[if_pos hb];simp only[go_sem,T];refine aG A (by simp) ?_;generalize E:aI _ J _=HP;replace F:=kpA E (by omega) F;replace A:HP J=some (cZ (bT bA)):=upS E;simp only[go_sem,X,];refine aG F (by simp) ?_;generalize E:aI _ I _=HP;replace A:=kpA E (by omega) A;replace F:HP I=some (nR bK):=upS E;simp only[go_sem,T,X,F,A];exact .refl _
 ·rw[if_neg (by grind)];simp only[go_sem];refine gS [ae] [(0,true),(1,true),(2,true),(3,true),(4,true),(5,false),(6,false),(7,false)] (by grind) (by kernel_rfl) fun Hp Hr hp ai _ aq=>?_
  have al:=(hp ae (by simp)).trans R10;have P4:=(ai J (by grind)).trans A;have P5:=(ai I (by grind)).trans F;simp only[go_sem,Z,h3,al];refine⟨_,(awE x r (mK x r).1 (by omega)).q rfl,?_⟩;simp only[go_sem,T,];refine aG P4 (by simp[gR]) ?_;generalize E:aI _ J _=HP;replace P5:=kpA E (by omega) P5;replace P4:HP J=some (cZ (bT (mK x r).1)):=upS E;simp only[go_sem,X,];refine aG P5 (by simp[cP]) ?_;generalize E:aI _ I _=HP;replace P4:=kpA E (by omega) P4;replace P5:HP I=some (nR (oD x r (mK x r).1)):=upS E;simp only[go_sem];refine dO fun _ Hm _ aj=>?_
  have M4:=(aj J (by grind)).trans P4;have M5:=(aj I (by grind)).trans P5;simp only[go_sem,T,X,M4,M5];exact .refl _
def axT(x:Instance)(r:Route)(hx:EvalB x)(Z:r.y7.length<=1048575):PC prog 68 [.agg (aD x),.agg (bJ r)] (int (fK x r).2.2):=by
 refine pcd func68 rfl rfl ?_;simp only[go_sem];refine aL (EF x r hx Z) ?_;simp only[go_sem];refine eJ fun X T J (A:T X=some (cZ (bT bA))) N=>?_
 clear N J;simp only[go_sem,A];refine eJ fun Y U O (F:U Y=some (nR bK)) N=>?_
 replace A:=N A;obtain⟨I,A⟩:=A;clear N O;simp only[go_sem,F,A];refine aG A (by simp[gR]) ?_;generalize E:aI _ X _=HP;replace F:=kpA E (by omega) F;replace A:HP X=some (cZ (bT (fK x r).1)):=upS E;clear E;simp only[go_sem,A,F];refine aG F (by simp[cP]) ?_;generalize E:aI _ Y _=HP;replace A:=kpA E (by omega) A;replace F:HP Y=some (nR (fK x r).2.1):=upS E;clear E;simp only[go_sem,F,A];exact .refl _
end Sq
namespace Sq
open Mv (bS bU aS)
end Sq
namespace Sq
open Mv (aS)
open Mv (bS bU aS)
theorem Zn(x:Instance):gM x=mO x.types:=by
 unfold gM mO
 grind
section
variable{x:Instance}(h:Acc x)
include h
theorem _root_.Go.Proofs.YtkfhgjihlbilpaaGreatDoor.Acc.dims:1<=gM x/\gM x<=3:=by rw[Zn];have h1:=h.types;obtain⟨t,A⟩:=aK (show 0<x.types.length by omega);have:=alQ (h.type t (Xab A)).cap;omega
theorem _root_.Go.Proofs.YtkfhgjihlbilpaaGreatDoor.Acc.netB:NetB x.τ:=⟨by have:=h.o9;omega,fun a E=>by have A:=Q7 (h.arc a E).eP;have:=(h.arc a E).ξ;exact⟨by have:=A.len;omega,by omega,fun p F=>by have:=A.pt p F;grind[avC]⟩⟩
theorem _root_.Go.Proofs.YtkfhgjihlbilpaaGreatDoor.Acc.insB:InsB x:=⟨h.netB,by have:=h.types;omega,by have:=h.y5;omega,by have:=h.apart;omega,by have:=h.before;omega⟩
theorem _root_.Go.Proofs.YtkfhgjihlbilpaaGreatDoor.Acc.loadB:LoadB x:=⟨by have:=h.dims;omega,fun o A=>by
 have:=(YR (h.order o A).load).1
 grind[Zn],by have:=h.y5;omega⟩
end
theorem Gp{l:List Point}{i:Nat}(h:i<l.length):fE l i∈l:=by simp_all[fI]
theorem U6{p:Point}{t:Int}(E:0<=p.t/\p.t<=4096/\p.t<=p.a/\p.a<=p.t+4096)(A:0<=t/\t<=12288):0<=Bj p t/\Bj p t<=100000000:=by grind[Bj,nT]
theorem asM{p q:Point}{t:Int}(J:0<=p.t/\p.t<=4096/\p.t<=p.a/\p.a<=p.t+4096)(X:0<=q.t/\q.t<=4096/\q.t<=q.a/\q.a<=q.t+4096)(T:p.a<=q.a)(h1:p.t<=t)(U:t<q.t):0<=KQ p q t/\KQ p q t<=100000000:=by
 unfold KQ;have I:0<=t-p.t/\t-p.t<=4096:=by omega
 have E:0<=q.a-p.a/\q.a-p.a<=8192:=by omega
 have A:0<=(t-p.t)*(q.a-p.a):=Int.mul_nonneg I.1 E.1;have F:(t-p.t)*(q.a-p.a)<=4096*8192:=Int.mul_le_mul I.2 E.2 E.1 (by omega);rw[nT (n:=t-p.t) (by omega),nT (n:=q.a-p.a) (by omega),nT (n:=(t-p.t)*(q.a-p.a)) (by omega),nT (n:=q.t-p.t) (by omega)];generalize (t-p.t)*(q.a-p.a)=m at A F;rw[nT (n:=m+q.t) (by omega),nT (n:=m+q.t-p.t) (by omega),nT (n:=m+q.t-p.t-1) (by omega),Xce (by omega)];have O:0<=(m+q.t-p.t-1)/(q.t-p.t):=Int.ediv_nonneg (by omega) (by omega);have Y:(m+q.t-p.t-1)/(q.t-p.t)<=m+q.t-p.t-1:=Int.ediv_le_self _ (by omega);have e:IntKind.i64.wrap ((m+q.t-p.t-1)/(q.t-p.t))=(m+q.t-p.t-1)/(q.t-p.t):=nT (by omega)
 grind[nT]
theorem axL{l:List Point}{t:Int}(h:jZ l=[])(I:0<=t/\t<=12288):0<=gZ l t/\gZ l t<=100000000:=by
 have A:=Q7 h;have J:=A.len;unfold gZ;split
 ·omega
 ·split
  ·rename_i k F;have E:=List.find?_some F;have O:=Xan.1 (List.mem_of_find?_eq_some F);simp only[oH,Xak,decide_eq_true_eq]at E;have:=A.mono k (by omega);exact asM (A.pt _ (Gp (by omega))) (A.pt _ (Gp (by omega))) this.2 E.1 E.2
  ·split
   ·exact U6 (A.pt _ (Gp (by omega))) I
   ·exact U6 (A.pt _ (Gp (by omega))) I
theorem Un{t:Int}:∀(l:List Point) (s B:Int),(∀p∈l,0<=p.a/\p.a<=4096)->0<=s/\s<=B->B+4096*l.length<=1000000000000->0<=l.foldl (pX t) s/\l.foldl (pX t) s<=B+4096*l.length
 | [],s,B,_,hs,_=>by grind
 | p::l,s,B,hp,hs,hB=>by
  have h1:=hp p (by simp);simp only[Xag,List.foldl_cons]at hB |-;have e:0<=pX t s p/\pX t s p<=B+4096:=by grind[pX,nT]
  have:=Un (t:=t) l (pX t s p) (B+4096) (fun q A=>hp q (by grind)) e (by omega);omega
theorem XV{a:Arc}{t:Int}(h:ArcOk a)(A:0<=t/\t<=12288):0<=uR a t/\uR a t<=1000000000:=by
 have h1:=axL h.eP A;have F:=h.ξ;have:=Un (t:=t) a.ξ _ 100000000 (fun p E=>(h.pt p E).2) h1 (by omega)
 grind[uR]
theorem Xe{s:Stop}(h:kH s=0)(E:0<=s.place):StopB s/\s.start<=s.close:=by
 unfold kH at h;split at h
 ·simp_all[Go.Proofs.YtkfhgjihlbilpaaGreatDoor.mP]
 ·split at h
  ·cases h
  ·rename_i A;simp only[PJ,Bool.not_eq_true,Xam,decide_eq_false_iff_not]at A;exact⟨⟨by omega,by omega,by omega,by omega⟩,by omega⟩
section
variable{x:Instance}(h:Acc x)
include h
theorem _root_.Go.Proofs.YtkfhgjihlbilpaaGreatDoor.Acc.go{t:VType}(O:t∈x.types):GoB x t:=by
 have A:=h.type t O;have U:=A.start;have E:=A.close;have J:=A.υ;refine⟨fun p q d T I=>?_,A.rest,E,J.2⟩;unfold gI at I |-;split
 ·simp
 ·split
  ·omega
  ·cases F:qQ x.τ t.o6 p q with
   | none=>simp
   | some a=>exact(XV (h.arc a (List.mem_of_find?_eq_some F)) T).1
theorem _root_.Go.Proofs.YtkfhgjihlbilpaaGreatDoor.Acc.stop{v:Visit}(A:(bM x v).2=true):StopB (bM x v).1/\(bM x v).1.start<=(bM x v).1.close:=by
 unfold bM at A |-;split
 ·grind
 ·rename_i J;rw[if_neg J]at A;cases E:x.y5[v.order.toNat]? with
  | none=>grind
  | some o=>
   rw[E]at A;have I:0<=(qG o v).place:=by grind
   have F:=h.order o (Xab E);refine Xe ?_ I;show kH (qG o v)=0;unfold qG;cases v.drop
   ·exact F.wpick
   ·exact F.wdrop
theorem _root_.Go.Proofs.YtkfhgjihlbilpaaGreatDoor.Acc.χ{r:Route}{t:VType}(A:cC x r=true)(J:x.types[r.type.toNat]?=some t):RouteB x t r/\∀v∈r.y7,(bM x v).1.start<=(bM x v).1.close:=by
 unfold cC at A;simp only[Xak,Xbp,Xam,decide_eq_false_iff_not]at A;have F:∀v∈r.y7,(bM x v).2=true:=Xap.1 A.2;have I:=h.type t (Xab J);have T:=I.start;have O:=I.close;refine⟨⟨h.go (Xab J),fun v E=>(h.stop (F v E)).1,⟨?_,by show -(12288*((0:Nat):Int))<=0/\(0:Int)<=4096;omega⟩,by omega⟩,fun v E=>(h.stop (F v E)).2⟩
 grind[iK,fX]
end
theorem axO(x:Instance)(t:VType)(r:Route)(k:Nat)(A:k<=r.y7.length):vA t (gQ x r.y7) k=jQ x t r k:=by cases k<;>grind[vA,jQ,gQ]
theorem alV(x:Instance)(t:VType)(r:Route)(k:Nat)(A:k<=r.y7.length)(l:Lab)(b:Bool):oG x t (gQ x r.y7) k l b=iB x t r k l b:=by grind[oG,iB,axO,gQ]
theorem ZP(x:Instance)(t:VType)(r:Route):∀(bs:List Bool) (k:Nat) (l:Lab),bs.length+k<=r.y7.length+1->Ec x t (gQ x r.y7) bs k l=mR x t r bs k l
 | [],k,l,_=>rfl
 | b::bs,k,l,h=>by
  simp only[Xag]at h;unfold Ec mR;rw[alV x t r k (by omega)];cases iB x t r k l b with
  | error e=>rfl
  | ok l'=>exact ZP x t r bs (k+1) l' (by omega)
theorem aBk(x:Instance)(t:VType)(r:Route)(k:Nat)(E:k<=r.y7.length)(A:List Lab):KJ x t r (gQ x r.y7) A k=CM x t r A k:=by grind[KJ,CM,List.foldl_flatMap,rB,List.map_congr_left,alV]
theorem axE(x:Instance)(t:VType)(r:Route):∀k:Nat,k<=r.y7.length+1->dpP x t r (gQ x r.y7) k=dpL x t r k
 | 0,_=>rfl
 | k+1,h=>by show KJ x t r _ _ k=CM x t r _ k;rw[aBk x t r k (by omega),axE x t r k (by omega)]
theorem _root_.Go.Proofs.YtkfhgjihlbilpaaGreatDoor.Acc.best{x:Instance}(h:Acc x)(r:Route):(mK x r).2=(mI x r).2:=by
 unfold mK;split
 ·simp_all[mI]
 ·rename_i U;have A:cC x r=true/\(r.o5.length:Int)<=(r.y7.length:Int)+1:=by grind
  obtain⟨J,I⟩:=A;have E:∃t,x.types[r.type.toNat]?=some t:=by simp_all[cC,cH]
  obtain⟨t,F⟩:=E;rw[F];show(FS x t r).2=_;obtain⟨O,T⟩:=h.χ J F;have I:r.o5.length<=r.y7.length+1:=by omega
  rw[auF O J F I T];unfold FS;rw[axE x t r _ (Xae _)]
  grind[ZP,oL]
theorem AD{α:Type}(p:α->Bool)(l:List α):((∀y∈l,p y=false)/\vV p l 0= -1)\/∃(k:Nat) (x:α),l[k]?=some x/\p x=true/\(∀y∈l.take k,p y=false)/\vV p l 0=k:=by
 by_cases h:l.any p=true
 ·right;have A:l.findIdx p<l.length:=List.findIdx_lt_length_of_exists (by grind);refine⟨l.findIdx p,l[l.findIdx p],List.getElem?_eq_getElem A,List.findIdx_getElem,?_,?_⟩
  ·grind[List.getElem_of_mem]
  ·have:=nS (p:=p) (l:=l) (k:=l.findIdx p) (x:=l[l.findIdx p]) (by grind[List.getElem_of_mem]) (List.getElem?_eq_getElem A) List.findIdx_getElem 0;omega
 grind[mF]
theorem HJ{v u:Visit}:yS v u=true↔u=v:=by
 unfold yS;constructor
 ·intro h;simp only[Xbk,Xak,Xau]at h;cases u<;>simp_all
 grind
theorem ahO{l:List Visit}{i:Nat}(A:i<l.length):rZ l i=Da l i:=by
 obtain⟨v,E⟩:=aK A;unfold rZ Da;rw[show l.getD i ⟨0,false⟩=v by grind];unfold cD;rw[rO _ 0 (Xbz _)]
 grind[AD,nS,HJ]
theorem wK{α:Type}{p q:α->Bool}{l:List α}(h:∀a∈l,p a=q a):l.any p=l.any q:=by grind
theorem N0{α:Type}{p q:α->Bool}{l:List α}(h:∀a∈l,p a=q a):l.all p=l.all q:=by grind
theorem IA{o:Order}{i:Int}(h1: -1<=o.pick.place)(A: -1<=o.drop.place):iE o i=dL o i:=by grind[iE,dL]
theorem aAU{l:List Visit}{u v:Visit}(h:u≠v)(A:cD l u>=0):cD l u≠cD l v:=by grind[cD,AD,HJ]
theorem aAd(l:List Visit)(v:Visit): -1<=cD l v:=by grind[cD,AD]
theorem arO(l:List Visit)(o:Order)(i:Int):sW l (dL o i) (-1)= !(!jP l (dL o i)||(((dL o i).length:Int) == 2&&decide (cD l ((dL o i).getD 0 ⟨0,false⟩)>cD l ((dL o i).getD 1 ⟨0,false⟩)))):=by
 have e:∀v,decide (cD l v> -1)= !decide (cD l v<0):=fun v=>by grind
 unfold dL;split
 ·split
  ·have E:=aAU (l:=l) (u:=⟨i,false⟩) (v:=⟨i,true⟩) (by simp);have A:=aAd l ⟨i,true⟩;simp only[List.cons_append,Xbi,sW,e,jP,List.all_cons,List.all_nil,Xag,List.length_nil,List.getD_cons_zero,List.getD_cons_succ,Xbk]
   grind
  grind[sW,jP]
 grind[sW,jP]
theorem adL{x:Instance}(h:Acc x){l:List Visit}{v:Visit}(F:0<=v.order/\v.order<(x.y5.length:Int)):yI x.y5 l v= !pG l (EB x v.order) v:=by
 obtain⟨o,A⟩:=aK (show v.order.toNat<x.y5.length by omega);have E:=h.order o (Xab A);have I:cH v.order x.y5.length=false:=by grind[cH]
 unfold yI gD EB;rw[if_neg (by grind),A];show(inV (iE o v.order) v&&sW l (iE o v.order) (-1))= !pG l (dL o v.order) v;rw[IA E.pick E.drop,arO]
 grind[inV,pG]
theorem Ow{l:List Visit}{a b:Int}:If l a b=true↔∃j k:Nat,k<j/\j<l.length/\gA l j=a/\gA l k=b:=by
 unfold If zF;simp only[Xaj,Xan,Xak,Xau];constructor
 ·rintro⟨j,E,k,A,h⟩;exact⟨j,k,A,E,h.1,h.2⟩
 ·rintro⟨j,k,A,E,h⟩;exact⟨j,E,k,A,h⟩
theorem Lh{l:List Visit}{a b:Int}(J:a≠b):Mq l a b=(!kC l b||(kC l a&& !If l a b)):=by
 unfold Mq;rcases AD (fun v:Visit=>v.order == b) l with⟨h0,h1⟩|⟨k,y,F,I,T,h1⟩
 ·grind[kC]
 ·rw[h1];have Z:kC l b=true:=Xaj.2 ⟨y,Xab F,I⟩;rw[Z,show decide ((k:Int)<0)=false by simp];simp only[Xbl,Xcc,Xal]
  congr 2
  rw[Xaz,Ow];unfold kC;rw[Xaj];have A:y.order=b:=by grind
  constructor
  ·rintro⟨u,O,E⟩;obtain⟨i,X,rfl⟩:=List.getElem_of_mem O;rw[List.getElem_drop]at E;rw[List.length_drop]at X;have E:(l[k+i]'(by omega)).order=a:=by grind
   have aa:i≠0:=by grind
   exact⟨k+i,k,by omega,by omega,(jN (List.getElem?_eq_getElem (by omega))).trans E,(jN F).trans A⟩
  ·rintro⟨j,m,hm,hj,ha,U⟩;have Y:k<=m:=by
    refine Decidable.byContradiction fun hc=>?_
    have:=T (l[m]'(by omega)) (List.mem_take_iff_getElem.2 ⟨m,by omega,rfl⟩)
    grind[jN]
   refine⟨l[j],?_,by grind[jN]⟩;exact List.mem_drop_iff_getElem.2 ⟨j-k,by omega,by grind⟩
theorem _root_.Go.Proofs.YtkfhgjihlbilpaaGreatDoor.Acc.seq{x:Instance}(h:Acc x)(l:List Visit):sZ x l=fP x l:=by
 unfold sZ fP;by_cases X:(l.any fun v=>cH v.order x.y5.length)=true
 ·grind
 have T:(l.any fun v=>cH v.order x.y5.length)=false:=by grind
 have F:∀v∈l,0<=v.order/\v.order<(x.y5.length:Int):=fun v O=>by grind[cH]
 have hl:=h.y5;have A:∀v∈l,CV v=false:=fun v O=>by grind[CV]
 rw[if_neg X,(DD h.loadB F).1];show(if _ then _ else _)=_;rw[T];have Y:(((l.length:Int) == 0)||false)=(((0:Int) != 0)||((l.length:Int) == 0)):=by simp
 rw[Y];by_cases h0:(((0:Int) != 0)||((l.length:Int) == 0))=true
 ·grind
 rw[if_neg h0,if_neg h0];have e2:(List.range l.length).any (rZ l)=(List.range l.length).any (Da l):=wK fun i U=>ahO (Xan.1 U)
 have e3:l.all (yI x.y5 l)=Av x l:=N0 fun v O=>adL h (F v O)
 have e4:(x.apart.any fun q=>kC l q.a&&kC l q.b)= !Dy x (xE l:Nat):=by
  unfold Dy;rw[List.not_all_eq_any_not];refine wK fun q J=>?_
  have E:=h.apartB q J;have h1:=vN A (i:=q.a) E.a.1 (by have:=E.a;omega);have I:=vN A (i:=q.b) E.b.1 (by have:=E.b;omega);rw[(DD h.loadB F).1]at h1 I;simp_all
 have Z:(x.before.any fun q=> !Mq l q.a q.b)= !xL x (xE l:Nat) l:=by
  unfold xL;rw[List.not_all_eq_any_not];refine wK fun q J=>?_
  have E:=h.beforeB q J;have h1:=vN A (i:=q.a) E.a.1 (by have:=E.a;omega);have I:=vN A (i:=q.b) E.b.1 (by have:=E.b;omega);rw[(DD h.loadB F).1]at h1 I;unfold Ca;rw[Lh E.ne,h1,I]
 simp_all
theorem aBT{s c:Nat}(T:s<2^63)(J:c<2^63):vY .andNot .i64 (s:Int) (c:Int)=0↔∀i,i<63->¬(s.testBit i=true/\c.testBit i=false):=by
 have h1:((s:Int)%((2^64:Nat):Int)).toNat=s:=by omega
 have O:((c:Int)%((2^64:Nat):Int)).toNat=c:=by omega
 have F:(BitVec.ofInt 64 (s:Int) &&& ~~~(BitVec.ofInt 64 (c:Int))).toNat<2^63:=by grind[Nat.and_le_left]
 have e:vY .andNot .i64 (s:Int) (c:Int)=(((BitVec.ofInt 64 (s:Int) &&& ~~~(BitVec.ofInt 64 (c:Int))).toNat:Nat):Int):=by exact aW (n:=(((BitVec.ofInt 64 (s:Int) &&& ~~~(BitVec.ofInt 64 (c:Int))).toNat:Nat):Int)) (by omega)
 have E:∀i,i<64->(BitVec.ofInt 64 (s:Int) &&& ~~~(BitVec.ofInt 64 (c:Int))).toNat.testBit i=(s.testBit i&& !c.testBit i):=fun i A=>by grind
 rw[e];constructor
 ·intro h0 i A I;have h0:(BitVec.ofInt 64 (s:Int) &&& ~~~(BitVec.ofInt 64 (c:Int))).toNat=0:=by omega
  grind
 ·intro U;have:(BitVec.ofInt 64 (s:Int) &&& ~~~(BitVec.ofInt 64 (c:Int))).toNat=0:=by
   refine Nat.eq_of_testBit_eq fun i=>?_
   rw[Nat.zero_testBit];by_cases A:i<63
   ·grind
   ·refine Xca (Xax F (Xah (by decide) (by omega)))
  omega
theorem abY{s i:Nat}(E:s<2^63):((IntKind.i64.wrap (Int.tdiv (s:Int) ((2^i:Nat):Int))).tmod 2 == 1)=s.testBit i:=by
 have e:Int.tdiv (s:Int) ((2^i:Nat):Int)=((s/2^i:Nat):Int):=by rfl
 have A:s/2^i<=s:=Xbv _ _
 grind[aW]
theorem Ph{s i:Nat}(A:s<2^63):((IntKind.i64.wrap (Int.tdiv (s:Int) ((2^i:Nat):Int))).tmod 2 == 0)= !s.testBit i:=by
 rw[<-abY A];have e:Int.tdiv (s:Int) ((2^i:Nat):Int)=((s/2^i:Nat):Int):=by rfl
 have E:s/2^i<=s:=Xbv _ _
 grind[aW]
theorem agB{c s:Int}(I:0<=c/\c<=1073741823)(J:0<=s/\s<=1073741823):yW c s=tO c s:=by
 obtain⟨c,rfl⟩:=Int.eq_ofNat_of_zero_le I.1;obtain⟨s,rfl⟩:=Int.eq_ofNat_of_zero_le J.1;have E:c<2^63:=by omega
 have A:s<2^63:=by omega
 unfold yW tO;rw[show decide ((c:Int)>=0)=true by simp,show decide ((s:Int)>=0)=true by simp,show decide ((c:Int)<0)=false by simp,show decide ((s:Int)<0)=false by simp];simp only[Xay,Bool.or_self,Xbx];rw[Xaz,Xau,aBT A E,Xap];constructor
 ·grind[Bo,Ph]
 ·intro h i F;have:=h i (Xan.2 F)
  grind[Bo,abY,Ph]
theorem abB(a b:Int):W (W a+b)=W (a+b):=by
 show IntKind.i64.wrap (IntKind.i64.wrap a+b)=IntKind.i64.wrap (a+b);have e:∀n:Int,IntKind.i64.wrap n=if n%18446744073709551616>=9223372036854775808 then n%18446744073709551616-18446744073709551616 else n%18446744073709551616:=fun n=>by show(if(true&&decide (n%18446744073709551616>=9223372036854775808))=true then n%18446744073709551616-18446744073709551616 else n%18446744073709551616)=_;simp
 grind
theorem aB6(a b:Int):W (W a-b)=W (a-b):=by grind[abB]
def vK:Nat->(Nat->Int)->Int
 | 0,_=>0
 | n+1,f=>vK n f+f n
theorem Di{f g:Nat->Int}:∀{n:Nat},(∀i,i<n->f i=g i)->vK n f=vK n g
 | 0,_=>rfl
 | n+1,h=>by unfold vK;rw[Di fun i A=>h i (by omega),h n (by omega)]
theorem O8{f g:Nat->Int}{i0:Nat}:∀{n:Nat},i0<n->(∀i,i<n->i≠i0->f i=g i)->vK n g=vK n f+(g i0-f i0)
 | n+1,A,h=>by
  unfold vK;by_cases e:i0=n
  ·grind[Di]
  ·have:=O8 (f:=f) (g:=g) (n:=n) (by omega) fun i A=>h i (by omega)
   grind
theorem O3{f:Nat->Int}{n:Nat}(h:∀i,n<=i->f i=0):∀m,vK (n+m) f=vK n f
 | 0=>rfl
 | m+1=>by show vK (n+m) f+f (n+m)=_;rw[O3 h m,h _ (by omega)];omega
def Le(x:Instance)(j i:Nat):Int:=match x.y5[i]? with|some o=>o.load.getD j 0|none=>0
def stB(l:List Visit)(i:Int)(b:Bool)(k:Nat):Bool:=(l.take k).foldl (fun s v=>if(v.order != i)=true then s else !v.drop) b
theorem Cy{l:List Visit}{i:Int}{b:Bool}{k:Nat}{v:Visit}(h:l[k]?=some v):stB l i b (k+1)=if(v.order != i)=true then stB l i b k else !v.drop:=by simp_all[stB,aY]
theorem SG(l:List Visit)(i:Int)(b:Bool):∀k,k<=l.length->((∀u∈l.take k,u.order≠i)/\stB l i b k=b)\/∃m u,m<k/\l[m]?=some u/\u.order=i/\stB l i b k= !u.drop
 | 0,_=>.inl ⟨by simp,rfl⟩
 | k+1,hk=>by
  obtain⟨v,A⟩:=aK (show k<l.length by omega);rw[Cy A];by_cases h:v.order=i
  ·grind
  ·rw[if_pos (by simp[h])];rcases SG l i b k (by omega)with⟨h1,E⟩|⟨m,u,h1,E,I,J⟩
   ·left;refine⟨fun u F=>?_,E⟩;rw[aY A]at F
    grind
   grind
theorem ZL(l:List Visit)(i:Int)(n:Nat)(b:Bool):∀m,m<=l.length->EW l i n b m=(stB l i b (min n m),kC (l.take m) i)
 | 0,_=>by rw[Nat.min_zero];rfl
 | m+1,hm=>by
  obtain⟨v,A⟩:=aK (show m<l.length by omega);rw[Ov A,ZL l i n b m (by omega)];have e:kC (l.take (m+1)) i=(kC (l.take m) i||v.order == i):=by simp_all[kC,aY]
  rw[e];unfold onS;by_cases h:v.order=i
  ·rw[if_neg (by simp[h])];by_cases E:m<n
   ·rw[if_pos (by grind),show min n (m+1)=m+1 by omega,Cy A,if_neg (by simp[h])];simp[h]
   grind
  ·rw[if_pos (by simp[h])];have:(v.order == i)=false:=by grind
   rw[this,Bool.or_false];by_cases E:m<n
   ·rw[show min n (m+1)=m+1 by omega,Cy A,if_pos (by simp[h]),show min n m=m by omega]
   grind
theorem aAS(l:List Visit)(k i:Nat)(o:Order)(A:k<=l.length):onB l k i o=(stB l i (decide (o.pick.place<0)) k&&kC l i):=by unfold onB;have:aBL l i k (decide (o.pick.place<0))=EW l i k (decide (o.pick.place<0)) l.length:=rfl;simp_all[ZL]
def onK(x:Instance)(l:List Visit)(k i:Nat):Bool:=match x.y5[i]? with|some o=>stB l i (decide (o.pick.place<0)) k&&kC l i|none=>false
def wY(x:Instance)(l:List Visit)(k j i:Nat):Int:=if onK x l k i=true then Le x j i else 0
theorem YU(ll:List (List Int))(a:List Int)(j:Nat):lW (ll++[a]) j=W (lW ll j+a.getD j 0):=by unfold lW;rw[List.foldl_append];rfl
theorem Ns(x:Instance)(l:List Visit)(k j:Nat)(E:k<=l.length):∀n,n<=x.y5.length->lW (kZ x.y5 l k n) j=W (vK n (wY x l k j))
 | 0,_=>rfl
 | n+1,hn=>by
  obtain⟨o,A⟩:=aK (show n<x.y5.length by omega);have ih:=Ns x l k j E n (by omega);rw[BE A];show _=W (vK n (wY x l k j)+wY x l k j n);have e:onK x l k n=onB l k n o:=by grind[onK,aAS]
  unfold wY;rw[e];by_cases h:onB l k n o=true
  ·rw[if_pos h,if_pos h,YU,ih,abB];unfold Le;rw[A];rfl
  ·rw[if_neg h,if_neg h,Xat,ih,Int.add_zero];rfl
theorem apH{f:Int->Int->Int}{a b:List Int}{j:Nat}(E:j<a.length)(A:j<b.length):(List.zipWith f a b).getD j 0=f (a.getD j 0) (b.getD j 0):=by grind
def pkN(x:Instance)(i:Nat):Bool:=match x.y5[i]? with|some o=>decide (o.pick.place<0)|none=>false
theorem Pu{x:Instance}{d:Nat}(I:∀o∈x.y5,o.load.length=d){s:Int}{j:Nat}(J:j<d):∀m,
  ((rL s m).foldl (sH x) (List.replicate d 0)).getD j 0=W (vK m fun i=>if(dI s i&&pkN x i)=true then Le x j i else 0)
 | 0=>by simp[rL,vK,List.getD,J];rfl
 | m+1=>by
  have ih:=Pu I (s:=s) J m;have E:=EJ I (rL s m);rw[pC,List.foldl_append];generalize U:(rL s m).foldl (sH x) (List.replicate d 0)=A at ih E |-;show _=W (vK m _+if(dI s (m:Int)&&pkN x m)=true then Le x j m else 0);cases T:dI s (m:Int)with
  | false=>grind
  | true=>
   rw[if_pos rfl];simp only[List.foldl_cons,List.foldl_nil];unfold sH;rw[Xal];cases O:x.y5[m]? with
   | none=>simp_all[pkN]
   | some o=>
    have F:pkN x m=decide (o.pick.place<0):=by grind[pkN]
    rw[F,Xay];show(if decide (o.pick.place<0)=true then AJ A o.load else A).getD j 0=_;by_cases F:decide (o.pick.place<0)=true
    ·rw[if_pos F,if_pos F];unfold AJ;rw[apH (by omega) (by grind),ih];simp_all[Z0,Le,abB]
    grind
theorem ajG{l:List Visit}{k:Nat}{v:Visit}(h:l[k]?=some v):kC l v.order=true:=Xaj.2 ⟨v,Xab h,by simp⟩
theorem IX{x:Instance}{l:List Visit}(h:fP x l=0):(List.range l.length).any (Da l)=false/\Av x l=true:=by grind[fP]
theorem abX{x:Instance}{l:List Visit}(h:fP x l=0){k:Nat}{v:Visit}(E:l[k]?=some v):cD l v=k:=by
 have A:k<l.length:=(List.getElem?_eq_some_iff.1 E).1;have:=Xba.1 (IX h).1 k (Xan.2 A)
 grind[Da]
theorem _root_.Go.Proofs.YtkfhgjihlbilpaaGreatDoor.Acc.board{x:Instance}(h:Acc x){l:List Visit}(U:fP x l=0){k:Nat}{v:Visit}{o:Order}(J:l[k]?=some v)(ho:x.y5[v.order.toNat]?=some o):stB l v.order (decide (o.pick.place<0)) k=v.drop:=by
 have hk:k<l.length:=(List.getElem?_eq_some_iff.1 J).1;have Z:=h.order o (Xab ho);have I:=Xap.1 (IX U).2 v (Xab J);have O:EB x v.order=dL o v.order:=by grind[EB]
 rw[O]at I;simp only[pG,Xbp,Xam,decide_eq_false_iff_not]at I;obtain⟨⟨Y,X⟩,A⟩:=I;have T:v∈dL o v.order:=by grind[cD,AD,HJ]
 have E:∀w∈dL o v.order,0<=cD l w:=fun w hw=>by grind[jP]
 rcases SG l v.order (decide (o.pick.place<0)) k (by omega)with⟨hn,F⟩|⟨m,u,hm,hu,ab,F⟩
 ·rw[F];cases hd:v.drop with
  | false=>
   have:o.pick.place≠ -1:=by grind[dL]
   have:=Z.pick
   grind
  | true=>
   refine decide_eq_true (Decidable.byContradiction fun aa=>?_);have h1:(o.pick.place != -1)=true:=by grind
   have h2:(o.drop.place != -1)=true:=by grind[dL]
   have e:dL o v.order=[⟨v.order,false⟩,⟨v.order,true⟩]:=by simp_all[dL]
   have ev:(⟨v.order,true⟩:Visit)=v:=by grind
   rw[e]at A E;have hi:=E ⟨v.order,false⟩ (by simp);have A:¬cD l ⟨v.order,false⟩>cD l ⟨v.order,true⟩:=by grind
   rw[ev,abX U J]at A;unfold cD at hi A
   grind[AD,yS,List.mem_take_iff_getElem]
 ·rw[F];have:u≠v:=by grind[abX]
  cases hd:v.drop <;> cases ac:u.drop <;> first|rfl|(exfalso;apply this;cases u;cases v;simp_all)
theorem Z7{x:Instance}(h:Acc x){l:List Visit}(J:fP x l=0){j:Nat}(Y:j<(gM x).toNat):∀k,k<=l.length->(HZ x l k).getD j 0=W (vK x.y5.length (wY x l k j))
 | 0,_=>by
  have F:=Fv J;have I:∀v∈l,CV v=false:=fun v A=>by
   have:=F v A;have:=h.y5
   grind[CV]
  have Z:=Pu h.loadB.load (s:=(cY l).1) Y 63;have e0:HZ x l 0=(rL (cY l).1 63).foldl (sH x) (List.replicate (gM x).toNat 0):=rfl;rw[e0,Z];have hN:=h.y5;rw[show 63=x.y5.length+(63-x.y5.length)by omega,O3 (n:=x.y5.length) (fun i T=>by simp_all[pkN])]
  congr 1
  refine Di fun i T=>?_
  obtain⟨o,E⟩:=aK T;unfold wY onK pkN;rw[E,Ly I (by omega) (by omega)];show(if(kC l i&&decide (o.pick.place<0))=true then _ else _)=if(decide (o.pick.place<0)&&kC l i)=true then _ else _
  rw[Bool.and_comm]
 | k+1,hk=>by
  obtain⟨v,A⟩:=aK (show k<l.length by omega);have F:=Fv J v (Xab A);obtain⟨o,E⟩:=aK (show v.order.toNat<x.y5.length by omega);have ih:=Z7 h J Y k (by omega);have X:=F1 h.loadB l k;have aa:=h.loadB.load o (Xab E);have hb:=h.board J A E;have hh:=ajG A;have hn:((v.order.toNat:Nat):Int)=v.order:=by omega
  have t0:wY x l k j v.order.toNat=if v.drop=true then o.load.getD j 0 else 0:=by simp_all[wY,onK,Le]
  have t1:wY x l (k+1) j v.order.toNat=if v.drop=true then 0 else o.load.getD j 0:=by
   unfold wY onK Le;rw[E,hn,hh];show(if(stB l v.order (decide (o.pick.place<0)) (k+1)&&true)=true then o.load.getD j 0 else 0)=_;rw[show stB l v.order (decide (o.pick.place<0)) (k+1)= !v.drop by simp_all[Cy],Xbk]
   grind
  have ht:∀i,i<x.y5.length->i≠v.order.toNat->wY x l k j i=wY x l (k+1) j i:=fun i T ab=>by
   obtain⟨O,U⟩:=aK T;unfold wY onK;rw[U];show(if(stB l i (decide (O.pick.place<0)) k&&kC l i)=true then _ else _)=if(stB l i (decide (O.pick.place<0)) (k+1)&&kC l i)=true then _ else _
   rw[show stB l i (decide (O.pick.place<0)) (k+1)=stB l i (decide (O.pick.place<0)) k by rw[Cy A,if_pos (by grind)]]
  rw[O8 (f:=wY x l k j) (g:=wY x l (k+1) j) (i0:=v.order.toNat) (by omega) ht,N2 A,t0,t1];unfold W7;rw[E];show(if v.drop=true then E6 (HZ x l k) o.load else AJ (HZ x l k) o.load).getD j 0=_;cases hd:v.drop with
  | true=>
   rw[if_pos rfl,if_pos rfl,if_pos rfl]
   grind[E6,YK,aB6]
  | false=>simp_all[AJ,Z0,abB]
theorem axF{x:Instance}(h:Acc x)(l:List Visit)(n:Int):kB (kZ x.y5 l n x.y5.length) (gM x)=true:=by
 have I:=h.dims;unfold kB;rw[show decide (gM x<0)=false by grind,show decide (gM x>3)=false by grind];simp only[Bool.or_self,Xbx,Xay];rw[Xap];intro a A;unfold kZ at A;obtain⟨i,_,F⟩:=List.mem_flatMap.1 A;cases E:x.y5[i]? with
 | none=>grind
 | some o=>
  rw[E]at F;have:=h.loadB.load o (Xab E)
  grind
theorem asY{a b:List Int}(h1:a.length=b.length)(h:∀j,j<a.length->a.getD j 0=b.getD j 0):a=b:=by grind[List.ext_getElem]
theorem NE{x:Instance}(h:Acc x){l:List Visit}(F:fP x l=0){k:Nat}(A:k<=l.length):qL x l k=(HZ x l k,0):=by
 unfold qL xK;rw[if_pos (axF h l k)]
 congr 1
 have I:=F1 h.loadB l k;refine asY (by grind) fun j E=>?_
 have E:j<(gM x).toNat:=by grind
 rw[Z7 h F E k A,<-Ns x l k j A _ (Xae _)]
 grind
theorem _root_.Go.Proofs.YtkfhgjihlbilpaaGreatDoor.Acc.loads{x:Instance}(h:Acc x)(l:List Visit):pQ x l=lB x l:=by
 unfold pQ lB;rw[h.seq l];by_cases A:(fP x l != 0)=true
 ·grind
 rw[if_neg A,if_neg A];have A:fP x l=0:=by grind
 have E:A6 (PN x l)=0:=Je fun e E=>by grind[PN,NE]
 rw[if_neg (by grind)]
 grind[zH,Si,List.map_congr_left,NE]
theorem _root_.Go.Proofs.YtkfhgjihlbilpaaGreatDoor.Acc.fits{x:Instance}(h:Acc x)(r:Route):Dg x r=BA x r:=by unfold Dg BA;rw[h.loads]
end Sq
namespace Sq
open Mv (bS bU aS)
def XF{x:Instance}{t:VType}{r:Route}(A:RouteB x t r){k:Nat}(U:k<=r.y7.length){l m F:Lab}{b:Bool}(bl:LabB l k)(I:LabB m k)(J:pY l m)(h:iB x t r k m b=.ok F):
  ∃l',iB x t r k l b=.ok l'/\pY l' F:=by
 have T:=A.short;by_cases E:k<r.y7.length
 ·obtain⟨v,O⟩:=aK E;have e:∀l,iB x t r k l b=qB x t (jQ x t r k) (bM x v).1 k l b:=fun l=>by grind[iB]
  rw[e]at h |-;exact Mh (by omega) A.go (A.stop v (Xab O)) bl I J h
 ·have e:∀l,iB x t r k l b=xW x t (jQ x t r k) k l b:=fun l=>by grind[iB]
  rw[e]at h |-;exact J8 (by omega) A.go bl I J h
def okO(e:Except Int Lab):Option Lab:=match e with| .ok l=>some l| .error _=>none
def okL(es:List (Except Int Lab)):List Lab:=es.filterMap okO
def ayI(a b:List (Except Int Lab)):okL (a++b)=okL a++okL b:=List.filterMap_append
def QJ{es:List (Except Int Lab)}{l:Lab}:l∈okL es↔.ok l∈es:=by
 unfold okL;rw[List.mem_filterMap];constructor
 ·rintro⟨e,A,h⟩;cases e with
  | error e=>cases h
  | ok l'=>injection h with h;grind
 ·intro h;exact⟨_,h,rfl⟩
def Qi(fixed:List Bool):Nat->List (List Bool)
 | 0=>[[]]
 | k+1=>(Qi fixed k).flatMap fun c=>(fM fixed k).map fun b=>c++[b]
theorem C3(fixed:List Bool):∀k,∀c∈Qi fixed k,c.length=k
 | 0,c,h=>by
  have h:c∈[[]]:=h
  grind
 | k+1,c,h=>by obtain⟨d,A,h⟩:=List.mem_flatMap.1 h;obtain⟨b,_,rfl⟩:=Xao.1 h;simp[C3 fixed k d A]
def Ag(x:Instance)(t:VType)(r:Route)(k:Nat)(l:Lab):List (Except Int Lab):=(fM r.o5 k).map fun b=>iB x t r k l b
def QP(x:Instance)(t:VType)(r:Route)(L:List (List Bool)):List Lab:=okL (L.map fun c=>mR x t r c 0 (iK t r))
def Oi(x:Instance)(t:VType)(r:Route)(k:Nat):∀L:List (List Bool),(∀c∈L,c.length=k) ->
   QP x t r (L.flatMap fun c=>(fM r.o5 k).map fun b=>c++[b])=(QP x t r L).flatMap fun l=>okL (Ag x t r k l)
 | [],_=>rfl
 | c::L,h=>by
   have ih:=Oi x t r k L fun d E=>h d (by grind)
   have F:=h c (by simp);unfold QP at ih |-;rw[List.flatMap_cons,Xaq,ayI,ih,Xav];have e : okL (((fM r.o5 k).map fun b => c ++ [b]).map fun c => mR x t r c 0 (iK t r)) = match mR x t r c 0 (iK t r) with
       | .error _=>[]
       | .ok l=>okL (Ag x t r k l):=by
     rw[List.map_map];cases A:mR x t r c 0 (iK t r)with
     | error e=>
       dsimp only;refine List.filterMap_eq_nil_iff.2 fun a I=>?_
       grind[okO,rG]
     | ok l=>
       dsimp only;unfold Ag
       congr 1
       simp_all[rG]
   rw[e];cases A:mR x t r c 0 (iK t r)with
   | error e=>rfl
   | ok l=>rfl
inductive Cov:List Lab->List Lab->Prop
 | nil:Cov [] []
 | keep {f d:List Lab} (l:Lab):Cov f d->Cov (f++[l]) (d++[l])
 | skip {f d:List Lab} (l m:Lab):Cov f d->m∈d->pY m l->Cov (f++[l]) d
def Cov.sub{f d:List Lab}(h:Cov f d):∀m∈d,m∈f:=by induction h<;>grind
def Cov.add{F D:List Lab}(h:Cov F D)(es:List (Except Int Lab)):Cov (F++okL es) (es.foldl Ab D):=by
 induction es generalizing F D with
 | nil=>grind[okL]
 | cons e es ih=>
  cases e with
  | error e=>exact ih h
  | ok l=>
   have J:F++okL (.ok l::es)=(F++[l])++okL es:=by rw[show okL (.ok l::es)=l::okL es from rfl,Xaw];rfl
   rw[J,List.foldl_cons];refine ih ?_;show Cov (F++[l]) (if D.any (Ah · l)=true then D else D++[l]);by_cases E:D.any (Ah · l)=true
   ·rw[if_pos E];obtain⟨m,I,A⟩:=Xaj.1 E;exact .skip l m h I (LN.1 A)
   ·rw[if_neg E];exact .keep l h
def Cov.skips{F D:List Lab}(h:Cov F D)(A:List Lab):(∀l∈A,∃m∈D,pY m l)->Cov (F++A) D:=by
 induction A generalizing F with
 | nil=>grind
 | cons l A ih=>intro E;obtain⟨m,I,J⟩:=E l (by simp);rw[show F++l::A=(F++[l])++A by simp];exact ih (.skip l m h I J) fun q O=>E q (by grind)
theorem Cov.grow{x:Instance}{t:VType}{r:Route}(U:RouteB x t r){k:Nat}(Y:k<=r.y7.length){f d:List Lab}(h:Cov f d):
  (∀l∈f,LabB l k)->Cov (f.flatMap fun l=>okL (Ag x t r k l)) (CM x t r d k):=by
 induction h with
 | nil=>intro _;exact .nil
 | @keep f d l h ih=>
  intro E;have ih:=ih fun q A=>E q (List.mem_append_left _ A)
  rw[List.flatMap_append,show[l].flatMap (fun l=>okL (Ag x t r k l))=okL (Ag x t r k l)by simp];have e:CM x t r (d++[l]) k=(Ag x t r k l).foldl Ab (CM x t r d k):=by grind[CM,Ag]
  rw[e];exact ih.add _
 | @skip f d l m h hm hb ih=>
  intro E;have ih:=ih fun q A=>E q (List.mem_append_left _ A)
  rw[List.flatMap_append,show[l].flatMap (fun l=>okL (Ag x t r k l))=okL (Ag x t r k l)by simp];refine ih.skips _ fun q A=>?_
  obtain⟨b,O,I⟩:=Xao.1 (QJ.1 A);obtain⟨T,h1,X⟩:=XF U Y (E m (List.mem_append_left _ (h.sub m hm))) (E l (by simp)) hb I;obtain⟨q',J,F⟩:=(D8 (d.flatMap fun l=>(fM r.o5 k).map fun b=>iB x t r k l b) []).2.2 T (List.mem_flatMap.2 ⟨m,hm,Xao.2 ⟨b,O,h1⟩⟩);exact⟨q',J,F.trans X⟩
def ZY{x:Instance}{t:VType}{r:Route}(A:RouteB x t r):∀k,k<=r.y7.length+1->Cov (QP x t r (Qi r.o5 k)) (dpL x t r k)
 | 0,_=>Cov.keep (iK t r) Cov.nil
 | k+1,hk=>by
  have ih:=ZY A k (by omega);show Cov (QP x t r ((Qi r.o5 k).flatMap fun c=>(fM r.o5 k).map fun b=>c++[b])) (CM x t r (dpL x t r k) k);rw[Oi x t r k _ (C3 r.o5 k)];refine ih.grow A (by omega) fun l I=>?_
  obtain⟨c,F,E⟩:=Xao.1 (QJ.1 I);exact P1 A k c l (C3 r.o5 k c F) (by omega) E
def fmS(o:Option Lab)(m:Lab):Option Lab:=match o with|none=>some m|some b=>some (oF b m)
def fm(l:List Lab):Option Lab:=l.foldl fmS none
def ZS(l:Lab)(A:List Lab):fm (l::A)=some (A.foldl oF l):=by
 show A.foldl fmS (some l)=_;induction A generalizing l with
 | nil=>rfl
 | cons a r ih=>exact ih (oF l a)
theorem acC(f:List Lab)(l:Lab):fm (f++[l])=fmS (fm f) l:=by grind[fm]
def asI(b m:Lab):(oF b m).x8.end_<=b.x8.end_/\(oF b m).x8.end_<=m.x8.end_:=by grind[oF]
def Sm:∀(A:List Lab) (b:Lab),(A.foldl oF b).x8.end_<=b.x8.end_/\∀m∈A,(A.foldl oF b).x8.end_<=m.x8.end_
 | [],b=>⟨Xbz _,by simp⟩
 | a::r,b=>by
  have ih:=Sm r (oF b a);have h:=asI b a
  grind
def azW{d:List Lab}{m:Lab}(A:m∈d):∃b,fm d=some b/\b.x8.end_<=m.x8.end_:=by
 cases d with
 | nil=>cases A
 | cons a r=>
  refine⟨_,ZS a r,?_⟩;have h:=Sm r a
  grind
def Cov.first{f d:List Lab}(h:Cov f d):(∀l∈f,l.x8.end_=l.ready)->fm f=fm d:=by
 induction h with
 | nil=>simp
 | keep l h ih=>grind[acC]
 | skip l m h hm hb ih=>intro A;rw[acC,ih fun q E=>A q (List.mem_append_left _ E)];obtain⟨b,h1,I⟩:=azW hm;rw[h1];have O:=A l (by simp);have F:=A m (List.mem_append_left _ (h.sub m hm));have J:=hb.1;show some (oF b l)=some b;simp_all[oF,if_neg]
def HT:∀(m:Nat) (p:List Bool),uL p (m+1)=(uL p m).flatMap fun c=>[c++[false],c++[true]]
 | 0,p=>rfl
 | m+1,p=>by show uL (p++[false]) (m+1)++uL (p++[true]) (m+1)=(uL (p++[false]) m++uL (p++[true]) m).flatMap _;rw[HT m,HT m,List.flatMap_append]
def KF(fixed:List Bool):∀k,k<=fixed.length->Qi fixed k=[fixed.take k]
 | 0,_=>rfl
 | k+1,h=>by
  show(Qi fixed k).flatMap _=_;rw[KF fixed k (by omega)];unfold fM;rw[if_pos (by omega)]
  grind[aY]
def apS(fixed:List Bool):∀m,Qi fixed (fixed.length+m)=uL fixed m
 | 0=>by rw[Nat.add_zero,KF fixed _ (Xae _),Xad];rfl
 | m+1=>by show(Qi fixed (fixed.length+m)).flatMap _=_;rw[apS fixed m,HT];unfold fM;rw[if_neg (show ¬fixed.length.add m<fixed.length from fun e=>absurd (show fixed.length+m<fixed.length from e) (by omega))];rfl
def afQ(o:Option Lab)(b:Sheet×Bool):Prop:=match o with|none=>b=(bA,false)|some m=>b=(m.x8,true)
def Vd{x:Instance}{r:Route}{t:VType}(E:cC x r=true)(I:x.types[r.type.toNat]?=some t)(F:∀v∈r.y7,(bM x v).1.start<=(bM x v).1.close):
  ∀(L:List (List Bool)) (o:Option Lab) (b:Sheet×Bool),(∀c∈L,c.length=r.y7.length+1)->afQ o b->afQ ((QP x t r L).foldl fmS o) (Cc x r L b)
 | [],o,b,_,h=>h
 | c::L,o,b,hl,h=>by
  have h0:=SU (bs:=c) E I (hl c (by simp)) F;have ih:=Vd E I F L;show afQ _ (Cc x r L (jJ x r c b));have J:=fun d O=>hl d (List.mem_cons_of_mem c O)
  unfold QP;rw[Xav];cases A:mR x t r c 0 (iK t r)with
  | error e=>
   rw[A]at h0;have T:=Gq _ _ _ _ A;show afQ ((QP x t r L).foldl fmS o) _
   grind[jJ]
  | ok m=>
   rw[A]at h0;show afQ ((QP x t r L).foldl fmS (fmS o m)) _;refine ih _ _ J ?_;unfold jJ;rw[h0.1,h0.2];cases o with
   | none=>have h:b=(bA,false):=h;rw[h];rfl
   | some q=>
    have h:b=(q.x8,true):=h;rw[h];show(if((0:Int) == 0&&(!true||decide (m.x8.end_<q.x8.end_)))=true then(m.x8,true)else(q.x8,true))=((oF q m).x8,true)
    grind[oF]
def _root_.Go.Proofs.YtkfhgjihlbilpaaGreatDoor.Acc.best2{x:Instance}(h:Acc x)(r:Route):mK x r=mI x r:=by
 by_cases hb:(!cC x r||decide ((r.o5.length:Int)>(r.y7.length:Int)+1))=true
 ·simp_all[mK,mI]
 have Y:cC x r=true/\(r.o5.length:Int)<=(r.y7.length:Int)+1:=by grind
 obtain⟨I,O⟩:=Y;have U:∃t,x.types[r.type.toNat]?=some t:=by have:=tW I;simp_all
 obtain⟨t,T⟩:=U;obtain⟨hB,hs⟩:=h.χ I T;have O:r.o5.length<=r.y7.length+1:=by omega
 have h2:=h.best r;have h0:=SU (bs:=dE r) I T (oL O) hs;have hz:(fV x r (dE r)).2.2≠0->(fV x r (dE r)).1=bA:=by grind
 refine Prod.ext ?_ h2;rw[SF I O hz];unfold mK;rw[if_neg hb,T];show(FS x t r).1=_;have J:uL r.o5 (xT r)=Qi r.o5 (r.y7.length+1):=by rw[<-apS];grind[xT]
 have A:=Vd I T hs (uL r.o5 (xT r)) none (bA,false) (fun c Z=>by grind[C3]) rfl;have F:=(ZY hB (r.y7.length+1) (Xae _)).first fun l hl=>by
  obtain⟨c,Z,E⟩:=Xao.1 (QJ.1 hl);obtain⟨cs,b,rfl,hm⟩:=Qo (C3 r.o5 _ c Z);rw[rG]at E;cases hd:mR x t r cs 0 (iK t r)with
  | error e=>grind
  | ok l'=>rw[hd]at E;have E:iB x t r (0+cs.length) l' b=.ok l:=E;unfold iB at E;rw[List.getElem?_eq_none (by omega)]at E;obtain⟨_,_,_,rfl⟩:=S9 E;rfl
 rw[<-J]at F;have A:afQ (fm (dpL x t r (r.y7.length+1))) (Cc x r (uL r.o5 (xT r)) (bA,false)):=F▸A;unfold FS;rw[axE x t r _ (Xae _)];generalize X:dpL x t r (r.y7.length+1)=d at A;cases d with
 | nil=>have A:Cc x r (uL r.o5 (xT r)) (bA,false)=(bA,false):=A;rw[A];show JD (Ec x t (gQ x r.y7) (dE r) 0 (iK t r))=bA;rw[ZP x t r _ 0 _ (by grind[oL])];have hk:L3 r.o5 (dE r):=(vZ (by grind[oL])).2 ⟨_,rfl⟩;obtain⟨e,E⟩:=(VY hB).1 X (dE r) (oL O) hk;rw[E];rfl
 | cons l ls=>rw[ZS]at A;have A:Cc x r (uL r.o5 (xT r)) (bA,false)=((ls.foldl oF l).x8,true):=A;rw[A];rfl
def _root_.Go.Proofs.YtkfhgjihlbilpaaGreatDoor.Acc.eval{x:Instance}(h:Acc x)(r:Route):fK x r=qS x r:=by
 unfold fK qS;by_cases J:cH r.type x.types.length=true
 ·grind
 rw[if_neg J,if_neg J];have A:∃t,x.types[r.type.toNat]?=some t:=by simp_all[cH]
 obtain⟨t,F⟩:=A;rw[F];show _=Ny x r t;unfold Ny;rw[h.seq];by_cases I:(fP x r.y7 != 0)=true
 ·grind
 rw[if_neg I,if_neg I];have E:fP x r.y7=0:=by grind
 have U:=h.type t (Xab F);have es:(r.y7.any fun v=> !EH x r v)=r.y7.any fun v=> !yZ x t v:=wK fun v T=>by have X:=Fv E v T;obtain⟨o,O⟩:=aK (show v.order.toNat<x.y5.length by omega);unfold EH yZ;rw[F,O];exact congrArg _ (agB U.l7 (h.order o (Xab O)).l7)
 unfold I0;rw[es,h.fits,h.best2]
 grind
end Sq
end Go.Proofs.YtkfhgjihlbilpaaGreatDoor
