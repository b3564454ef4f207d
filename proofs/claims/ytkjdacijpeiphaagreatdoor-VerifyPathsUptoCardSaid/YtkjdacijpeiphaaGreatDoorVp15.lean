import Derived.Lib.LaidIn
import Derived.MakeChecks
import Derived.Stop.LaidErr
import Derived.Test.YtkjdacijpeiphaaGreatDoorVp14
set_option linter.unusedSimpArgs false
set_option linter.unusedVariables false
set_option linter.defProp false
set_option maxRecDepth 100000
section
namespace Go.Proofs.YtkjdacijpeiphaaGreatDoor.Ve
open Go.Proofs.Tryz
open Go.Aw Go.Aw.D Go.Proofs Ty Go.Ve Dec
open Go.Proofs.YtkjdacijpeiphaaGreatDoor.Nu
def QT(l:List TNode)(at_:Int)(k:Nat)(f:Int):Prop:=(kI (l.take k) at_=0/\f= -1)\/∃(i:Nat) (a:TNode),i<k/\l[i]?=some a/\at_∈wM a/\f=i
def QT.mono{l:List TNode}{at_:Int}{k:Nat}{f:Int}(h:QT l at_ k f){a:TNode}(F:l[k]?=some a)(I:at_∉wM a):QT l at_ (k+1) f/\kI (l.take (k+1)) at_=kI (l.take k) at_:=by
 have A:kI (l.take (k+1)) at_=kI (l.take k) at_:=by rw[aZ F,AM,List.count_eq_zero.2 I];rfl
 refine⟨?_,A⟩;rcases h with h|⟨i,b,h1,E⟩
 ·exact .inl ⟨by rw[A];exact h.1,h.2⟩
 ·exact .inr ⟨i,b,by omega,E⟩
def Yw{l:List TNode}(at_:Int){k:Nat}{a:TNode}(A:l[k]?=some a)(E:a.leaf=false):kI (l.take (k+1)) at_=kI (l.take k) at_+((if(a.yes == at_)=true then 1 else 0)+(if(a.no == at_)=true then 1 else 0)):=by rw[aZ A,AM];unfold wM jK;rw[if_neg (by rw[E];decide)];simp only[List.count_cons,List.count_nil];omega
def PV{l:List TNode}{at_:Int}{k:Nat}{a:TNode}(A:l[k]?=some a)(E:a.leaf=false)(h:(a.yes == at_)=true\/(a.no == at_)=true):QT l at_ (k+1) (k:Nat):=
 .inr ⟨k,a,by omega,A,by unfold wM jK;rw[if_neg (by rw[E];decide)];simp at h |-;omega,rfl⟩
def L0(l:List TNode)(at_:Int)(hl:l.length<=1048576):WC prog 20 [.sl (l.map aY),int at_] (fun r=>∃f,r=.tup [int f,int (kI l at_:Nat)]/\QT l at_ l.length f):=by
 refine WC.body (c:=f20.body.getD .skip) (fun _=>false) mixed func20 rfl (by kernel_rfl) ?_;unfold f20;simp only[Xbc];simp only[go_sem];refine⟨fun ρ H=>∃(k:Nat) (f:Int),k<=l.length/\ρ 0=.sl (l.map aY)/\ρ 1=int at_/\ρ 8=int k/\ρ 6=int f/\ρ 7=int (kI (l.take k) at_:Nat)/\QT l at_ k f,fun ρ _=>l.length-aU (ρ 8),⟨0,-1,Xab _,by simp only[go_sem],by simp only[go_sem],(by simp only[go_sem];rfl),by simp only[go_sem],by simp only[go_sem];rfl,.inl ⟨rfl,rfl⟩⟩,?_⟩;rintro ρ H ⟨k,f,hk,I,J,M,F,E,hP⟩;simp only[go_sem,I,J,M,F,E];refine aA (fun A=>?_) (fun X=>?_)
 ·have A:=ltB (by simpa using A);obtain⟨a,U⟩:=aO A;have b1:=inB A;have aa:=Oz (l:=l.take k) at_;rw[Xah]at aa;have O:k<=4611686018427387904:=by omega
  simp only[go_sem,I,J,M,F,E,aC U,b1,Xaa];refine aA (fun Y=>?_) (fun Y=>?_)
  ·obtain⟨h1,T⟩:=hP.mono U (by unfold wM jK;rw[if_pos Y];simp);simp only[go_sem,I,J,M,F,E,lG O];exact⟨⟨k+1,f,A,rfl,rfl,by rw[T],h1⟩,by simp only[aF];omega⟩
  have Z:=Yw at_ U Y;have hw:∀c:Nat,c<=4611686018427387904->IntKind.i64.wrap ((c:Int)+1)=((c+1:Nat):Int):=fun c h=>lG h
  simp only[go_sem,I,J,M,F,E,aC U,b1,Xaa];refine aA (fun h1=>?_) (fun h1=>?_)
  ·have hx:=PV U Y (.inl h1);simp only[go_sem,I,J,M,F,E,aC U,b1,Xaa];refine aA (fun T=>?_) (fun T=>?_)
   ·rw[if_pos h1,if_pos T]at Z;simp only[go_sem,I,J,M,F,E,lG O,hw (kI (l.take k) at_) (by omega),hw (kI (l.take k) at_+1) (by omega)];exact⟨⟨k+1,(k:Nat),A,rfl,rfl,by rw[Z],hx⟩,by simp only[aF];omega⟩
   ·rw[if_pos h1,if_neg (by rw[T];decide)]at Z;simp only[go_sem,I,J,M,F,E,lG O,hw (kI (l.take k) at_) (by omega)];exact⟨⟨k+1,(k:Nat),A,rfl,rfl,by rw[Z],hx⟩,by simp only[aF];omega⟩
  ·simp only[go_sem,I,J,M,F,E,aC U,b1,Xaa];refine aA (fun T=>?_) (fun T=>?_)
   ·have hx:=PV U Y (.inr T);rw[if_neg (by rw[h1];decide),if_pos T]at Z;simp only[go_sem,I,J,M,F,E,lG O,hw (kI (l.take k) at_) (by omega)];exact⟨⟨k+1,(k:Nat),A,rfl,rfl,by rw[Z],hx⟩,by simp only[aF];omega⟩
   ·obtain ⟨h3, h4⟩ := hP.mono U (by unfold wM jK;rw[if_neg (by rw[Y];decide)];simp at h1 T |-;omega);simp only[go_sem,I,J,M,F,E,lG O];exact⟨⟨k+1,f,A,rfl,rfl,by rw[h4],h3⟩,by simp only[aF];omega⟩
 have X:=geB hk (by simpa using X);subst X;rw[Xad]at E;simp only[go_sem,I,J,M,F,E];exact⟨_,⟨f,rfl,hP⟩,.refl _⟩
def UpR(l:List TNode)(at0 k:Nat)(out:List Decision):Prop:=∀e,Bh l at0 e↔∃d,Bh l k d/\e=d++out
def UpR.step{l:List TNode}(U:kJ l=true)(X:kD TNode.leaf TNode.yes TNode.no l=true){E k i:Nat}{out:List Decision}(h:UpR l E k out)(Y:k≠0){a:TNode}(O:l[i]?=some a)(I:a.leaf=false)(A:(k:Int)∈wM a):
  UpR l E i ((if a.no=(k:Int)then rN a.choice else a.choice)::out):=by
 have T:a.yes=(k:Int)\/a.no=(k:Int):=by unfold wM jK at A;rw[if_neg (by rw[I];decide)]at A;simp at A;omega
 intro e;rw[h e];constructor
 ·rintro⟨d,F,rfl⟩;obtain⟨Z,rfl,M⟩:=NX X U Y O I F T;exact⟨Z,M,by simp⟩
 ·rintro⟨d,F,rfl⟩;refine⟨d++[if a.no=(k:Int)then rN a.choice else a.choice],?_,by simp⟩;by_cases J:a.no=(k:Int)
  ·rw[if_pos J];exact .no F O I J
  ·rw[if_neg J];exact .yes F O I (T.resolve_right J)
def Q7{l:List TNode}(F:kJ l=true)(E:kD TNode.leaf TNode.yes TNode.no l=true)(A:l≠[]){k:Nat}{d:List Decision}(h:Bh l k d):d.length<l.length:=by obtain⟨V,J⟩:=Da F E _ [] [0] (Xaf _) (BInv.start A);obtain⟨M,h1,I⟩:=J.short h;rw[pP E F h h1];exact I
def JJ(H:aG)(v:AV)(out:List Decision):Prop:=(v=.sl []/\out=[])\/∃j,v=.os j/\H j=some (dK out)
def JJ.keep{H G:aG}{v:AV}{out:List Decision}{i:Nat}(h:JJ H v out)(E:H i=none)(F:∀k,k≠i->G k=H k):JJ G v out:=by
 rcases h with h|⟨j,h1,A⟩
 ·exact .inl h
 ·exact .inr ⟨j,h1,(F j (bC A E)).trans A⟩
def L3:∀l:List Decision,cA 4 (l.map aM)
 | []=>trivial
 | d::r=>⟨eA d,L3 r⟩
def YN(l:List TNode)(hr:kJ l=true)(hc:kD TNode.leaf TNode.yes TNode.no l=true)(hl:l.length<=1048576)(J:Nat)(ae:J<l.length)(w:Option (List Decision))(hw:∀e,Bh l J e↔w=some e):
  PC prog 13 [.sl (l.map aY),int (J:Nat)] (.tup [.sl ((w.getD []).map aM),boo w.isSome]):=by
 have al:l≠[]:=by rintro rfl;simp at ae
 refine pcb (fun t=>t == 43) func13 rfl rfl ?_;simp only[go_sem];refine⟨fun ρ H=>∃(s k:Nat) (out:List Decision),out.length=s/\s<=l.length+1/\k<l.length/\UpR l J k out/\ρ 0=.sl (l.map aY)/\ρ 1=int (k:Nat)/\ρ 7=int (s:Nat)/\JJ H (ρ 6) out,fun ρ _=>l.length+1-aU (ρ 7),⟨0,J,[],rfl,Xab _,ae,fun e=>by simp,by simp only[go_sem],by simp only[go_sem],(by simp only[go_sem];rfl),.inl ⟨by simp only[go_sem],rfl⟩⟩,?_⟩;rintro ρ H ⟨s,k,out,ho,hs,hk,hU,M,e1,I,O⟩;simp only[go_sem,M,e1,I];refine aA (fun E=>?_) (fun E=>?_)
 ·have X:k≠0:=by rintro rfl;simp at E
  simp only[go_sem,M,e1,I,Xaa];refine aA (fun E=>?_) (fun E=>?_)
  ·have ac : w = none := by
    cases w with
    | none=>rfl
    | some e=>have he:=(hw e).2 rfl;have h1:=Q7 hr hc al he;obtain⟨d,_,rfl⟩:=(hU e).1 he;simp at E h1;omega
   subst ac;simp only[go_sem];exact .refl _
  have ap:s<=l.length:=by simp at E;omega
  simp only[go_sem,M,e1,I];refine WC.use (L0 l (k:Nat) hl) fun r ⟨f,hf,hP⟩=>?_
  subst hf;have af:=IM hc hk X;obtain⟨i,a,hi,ha,hm,rfl⟩:∃(i:Nat) (a:TNode),i<l.length/\l[i]?=some a/\(k:Int)∈wM a/\f=i:=by
   rcases hP with⟨h0,_⟩|h
   ·rw[Xad]at h0;have:kI l (k:Int)=1:=af;omega
   ·exact h
  simp only[go_sem];refine aA (fun E=>by simp at E;omega) (fun E=>?_);have b1:=inB hi;simp only[go_sem,M,e1,I,aC ha,b1,Xaa];have hlf:a.leaf=false:=by
   cases h:a.leaf with
   | false=>rfl
   | true=>unfold wM jK at hm;rw[if_pos h]at hm;cases hm
  have ai:=hU.step hr hc X ha hlf hm;refine aJ fun F aa=>?_
  simp only[go_sem];refine aN (aB _ _ _) (by simp[eA]) ?_;generalize hG:aI (aI H F _) F _=G;have A:G F=some ⟨33,4,[aM a.choice]⟩:=by rw[<-hG,aB];rfl
  have am:∀j,ρ 6=.os j->j≠F:=fun j Z=>by
   rcases O with h|⟨j',h1,U⟩
   ·rw[h.1]at Z;cases Z
   ·rw[h1]at Z;cases Z;exact bC U aa
  have hO:JJ G (ρ 6) out:=O.keep aa fun k hk=>by rw[<-hG,aD _ _ _ _ hk,aD _ _ _ _ hk]
  clear hG aa O;generalize O:ρ 6=v6 at *;simp only[go_sem,M,e1,I,aC ha,b1,Xaa];generalize hC:(if a.no=(k:Int)then rN a.choice else a.choice)=C at ai;refine gT (fun T H'=>T 0=.sl (l.map aY)/\T 6=v6/\T 7=int (s:Nat)/\T 8=int (i:Nat)/\T 10=.op F 0 0/\H' F=some ⟨33,4,[aM C]⟩/\JJ H' v6 out) ?_ fun K hK=>aA (fun E=>?_) (fun E=>?_)
  rotate_left
  ·rw[if_pos (by simpa using E)]at hC;subst hC;simp only[go_sem,A];refine aP (Xn a.choice) ?_;simp only[go_sem];refine aN A (by simp[eA]) ?_;simp only[go_sem];refine hK _ _ ⟨by simp only[go_sem,M],by simp only[go_sem,O],by simp only[go_sem,I],by simp only[go_sem],by simp only[go_sem],(aB _ _ _).trans rfl,?_⟩;rcases hO with h|⟨j,h1,U⟩
   ·exact .inl h
   ·exact .inr ⟨j,h1,(aD _ _ _ _ (am j h1)).trans U⟩
  ·rw[if_neg (by simpa using E)]at hC;subst hC;simp only[go_sem];exact hK _ _ ⟨by simp only[go_sem,M],by simp only[go_sem,O],by simp only[go_sem,I],by simp only[go_sem],by simp only[go_sem],A,hO⟩
  clear M e1 I O A hO;rintro ρ H ⟨M,O,I,e8,ag,A,hO⟩;simp only[go_sem,M,O,I,e8,ag,A];refine aJ fun j Z=>?_
  have ao:∀j',v6=.os j'->j'≠j:=fun j' h=>by
   rcases hO with h0|⟨j2,h1,U⟩
   ·rw[h0.1]at h;cases h
   ·rw[h1]at h;cases h;exact bC U Z
  generalize ab:aI H j _=G2;have aj:G2 j=some (dK [C]):=by rw[<-ab,aB];rfl
  have ak:JJ G2 v6 out:=hO.keep Z fun k hk=>by rw[<-ab,aD _ _ _ _ hk]
  clear hO A ab;simp only[go_sem,M,O,I,e8,ag];have Y:∀(j2:Nat) (H2:aG),H2 j2=some (dK (C::out))->(∃(s' k:Nat) (out:List Decision),out.length=s'/\s'<=l.length+1/\k<l.length/\UpR l J k out/\ρ 0=.sl (l.map aY)/\int (i:Nat)=int (k:Nat)/\int ((s+1:Nat):Int)=int (s':Nat)/\JJ H2 (.os j2) out)/\l.length+1-aU (int ((s+1:Nat):Int))<l.length+1-aU (int (s:Nat)):=fun j2 H2 U=>⟨⟨s+1,i,C::out,by simp[ho],by omega,hi,ai,M,rfl,rfl,.inr ⟨j2,rfl,U⟩⟩,by simp only[aF];omega⟩
  have ah:s<=4611686018427387904:=by omega
  rcases ak with⟨rfl,rfl⟩|⟨j6,rfl,R6⟩
  ·simp only[go_sem];refine bT aj ⟨rfl,rfl⟩ (by simp only[go_sem]) (by simp) (fun j' an=>?_);simp only[go_sem,I,e8,lG ah];exact Y j' _ ((aB _ _ _).trans rfl)
  ·simp only[go_sem];refine XO aj R6 ⟨rfl,rfl⟩ (L3 _) (by simp only[Xaa,Xae,List.length_nil];omega) (fun j' an=>?_);simp only[go_sem,I,e8,lG ah];exact Y j' _ ((aB _ _ _).trans rfl)
 ·have X:k=0:=by simp at E;omega
  subst X;have ac:w=some out:=(hw out).1 ((hU out).2 ⟨[],.root,rfl⟩);subst ac;simp only[go_sem];rcases O with⟨h1,rfl⟩|⟨j,h1,U⟩
  ·simp only[go_sem,h1];exact .refl _
  ·simp only[go_sem,h1];exact .tup _ _ (.cons _ _ _ _ (.row _ _ _ U (ConvE.refl _)) (ConvL.refl _))
def Uv(l:List TNode)(b:Bool)(hb:b=true↔nV l)(hl:l.length<=1048576):PC prog 12 [.sl (l.map aY)] (boo b):=by
 have I:¬nV l->b=false:=fun h=>by cases b with|false=>rfl|true=>exact absurd (hb.1 rfl) h
 refine pcd func12 rfl rfl ?_;simp only[go_sem];refine aA (fun h=>?_) (fun h=>?_)
 ·rw[I fun M=>by have h1:=M.1;have h2:=M.2.1;simp at h;omega];simp only[go_sem];exact .refl _
 have O:1<=l.length/\l.length<=1024:=by simp at h;omega
 simp only[go_sem];refine⟨fun ρ H=>∃(k:Nat),k<=l.length/\ρ 0=.sl (l.map aY)/\ρ 3=int k/\(∀a∈l.take k,(a.leaf||(inT l.length a.yes&&inT l.length a.no))=true),fun ρ _=>l.length-aU (ρ 3),⟨0,Xab _,by simp only[go_sem],(by simp only[go_sem];rfl),by simp⟩,?_⟩;rintro ρ H ⟨k,Y,F,e3,T⟩;simp only[go_sem,F,e3];refine aA (fun A=>?_) (fun E=>?_)
 ·have A:=ltB (by simpa using A);obtain⟨a,ha⟩:=aO A;have b1:=inB A;simp only[go_sem,F,e3,aC ha,b1,Xaa];refine aA (fun h=>?_) (fun h=>?_)
  ·rw [I fun M => by have:=M.2.2.1;unfold kJ iR at this;have:=Xal.1 this a (Xac ha);cases hL:a.leaf <;> simp[inT,hL]at h this <;> omega];simp only[go_sem];exact .refl _
  ·simp only[go_sem,F,e3,aT k];refine⟨⟨k+1,A,rfl,fI (p:=fun a:TNode=>(a.leaf||(inT l.length a.yes&&inT l.length a.no))=true) ha ?_ T⟩,by simp only[aF];omega⟩;cases hL:a.leaf <;> simp[inT,hL]at h |- <;> omega
 have E:=geB Y (by simpa using E);subst E;rw[Xad]at T;have hr:kJ l=true:=Xal.2 T;simp only[go_sem,F,e3];refine⟨fun ρ H=>∃(k:Nat),k<=l.length/\ρ 0=.sl (l.map aY)/\ρ 4=int k/\(∀i,i<k->(if i=0 then kI l 0 == 0 else kI l i == 1)=true),fun ρ _=>l.length-aU (ρ 4),⟨0,Xab _,by simp only[go_sem,F],(by simp only[go_sem,F];rfl),fun i h=>absurd h (Nat.not_lt_zero i)⟩,?_⟩;rintro ρ H ⟨k,Y,F,X,T⟩;simp only[go_sem,F,X];refine aA (fun A=>?_) (fun E=>?_)
 ·have A:=ltB (by simpa using A);simp only[go_sem,F,X];refine WC.use (L0 l (k:Nat) hl) fun r ⟨f,hf,_⟩=>?_
  subst hf;simp only[go_sem,F,X];refine aA (fun h=>?_) (fun h=>?_)
  ·rw [I fun M => by
    have U:=M.2.2.2.1;by_cases h0:k=0
    ·subst h0;have:=DR U (by rintro rfl;simp at A);have:kI l 0=0:=this;simp at h;omega
    ·have:=IM U A h0;have:kI l k=1:=this;simp at h;omega]
   simp only[go_sem];exact .refl _
  ·simp only[go_sem,F,X,aT k];refine⟨⟨k+1,A,rfl,fun i hi=>?_⟩,by simp only[aF];omega⟩;rcases Xay i k with J|J
   ·exact T i J
   ·have:i=k:=by omega
    subst this;by_cases h0:i=0
    ·subst h0;simp at h |-;omega
    ·rw[if_neg h0];simp at h |-;omega
 have E:=geB Y (by simpa using E);subst E;have U:kD TNode.leaf TNode.yes TNode.no l=true:=Xal.2 fun i hi=>T i (Xba.1 hi)
 simp only[go_sem,F,X];refine⟨fun ρ H=>∃(k:Nat),k<=l.length/\ρ 0=.sl (l.map aY)/\ρ 7=int k/\(∀i,i<k->∃d,Bh l i d),fun ρ _=>l.length-aU (ρ 7),⟨0,Xab _,by simp only[go_sem,F],(by simp only[go_sem,F];rfl),fun i h=>absurd h (Nat.not_lt_zero i)⟩,?_⟩;rintro ρ H ⟨k,Y,F,e7,hw⟩;simp only[go_sem,F,e7];refine aA (fun A=>?_) (fun E=>?_)
 ·have A:=ltB (by simpa using A);simp only[go_sem,F,e7];obtain⟨w,hww⟩:∃w:Option (List Decision),∀e,Bh l k e↔w=some e:=by
   by_cases Z:∃d,Bh l k d
   ·obtain⟨d,hd⟩:=Z;exact⟨some d,fun e=>⟨fun h=>by rw[pP U hr hd h],fun h=>by cases h;exact hd⟩⟩
   ·exact⟨none,fun e=>⟨fun h=>absurd ⟨e,h⟩ Z,fun h=>by cases h⟩⟩
  refine aP (YN l hr U hl k A w hww) ?_;simp only[go_sem];refine aA (fun h=>?_) (fun h=>?_)
  ·rw [I fun M => by obtain⟨d,hd⟩:=M.2.2.2.2 k A;rw[(hww d).1 hd]at h;simp at h];simp only[go_sem];exact .refl _
  ·simp only[go_sem,F,e7,aT k];refine⟨⟨k+1,A,rfl,fun i hi=>?_⟩,by simp only[aF];omega⟩;rcases Xay i k with J|J
   ·exact hw i J
   ·have:i=k:=by omega
    subst this;cases w with
    | none=>simp at h
    | some d=>exact⟨d,(hww d).2 rfl⟩
 have E:=geB Y (by simpa using E);subst E;rw[show b=true from hb.2 ⟨O.1,O.2,hr,U,hw⟩];simp only[go_sem];exact .refl _
def GT(p:Proof)(b:Bool)(hb:b=true↔nV p.nodes)(D:List (List Decision))(hD:b=true->PathsOf p.nodes D)(hl:p.nodes.length<=1048576):
  PC prog 6 [.agg (cY p)] (.tup [.sl ((if b=true then eY p.nodes D else[]).map nG),int (if b=true then 0 else 29)]):=by
 refine pcb (fun t=>t == 4) func6 rfl rfl ?_;simp only[go_sem];refine aP (Uv p.nodes b hb hl) ?_;simp only[go_sem];cases b with
 | false=>refine aA (fun h=>?_) (fun h=>by cases h);simp only[go_sem];exact .refl _
 | true=>
  have M:=hb.1 rfl;have T:=hD rfl;refine aA (fun h=>by cases h) (fun h=>?_);simp only[go_sem];refine dV fun j Y X (R:Y j=some (wS [])) N=>?_
  clear N X;simp only[go_sem,R];refine⟨fun ρ H=>∃(k:Nat) (j:Nat),k<=p.nodes.length/\ρ 1=.rp (cY p) 0/\ρ 5=int k/\ρ 4=.os j/\H j=some (wS (eY (p.nodes.take k) (D.take k))),fun ρ _=>p.nodes.length-aU (ρ 5),⟨0,j,Xab _,by simp only[go_sem],(by simp only[go_sem];rfl),by simp only[go_sem],R⟩,?_⟩;rintro ρ H ⟨k,j,hk,I,E,F,R⟩;simp only[go_sem,I,E,F];refine aA (fun A=>?_) (fun J=>?_)
  ·have A:=ltB (by simpa using A);obtain⟨a,ha⟩:=aO A;have b1:=inB A;obtain⟨d,Z⟩:=aO (show k<D.length by rw[T.len];exact A);have O:=AT ha Z;have U:=nB (p.nodes.take k) (D.take k);rw[Xah]at U;generalize aa:eY (p.nodes.take k) (D.take k)=PL at *;simp only[go_sem,I,E,F,aC ha,b1,Xaa];refine aA (fun hf=>?_) (fun hf=>?_)
   ·rw[if_pos hf]at O;simp only[go_sem,I,E,F];refine aP (YN p.nodes M.2.2.1 M.2.2.2.1 hl k A (some d) fun e=>⟨fun h=>by rw[pP M.2.2.2.1 M.2.2.1 h (T.way k d Z)],fun h=>by cases h;exact T.way k d Z⟩) ?_;simp only[go_sem,I,E,F];refine bT R ⟨rfl,rfl⟩ ⟨rfl,trivial⟩ (by simp only[Xaa,Xae,List.length_nil];omega) (fun j' ab=>?_);simp only[go_sem,I,E,F,aT k];refine⟨⟨k+1,j',A,rfl,rfl,?_⟩,msr A⟩;rw[O,aB];simp[wS,nG]
   ·rw[if_neg (by rw[hf];simp),Xbn]at O;simp only[go_sem,I,E,F,aT k];refine⟨⟨k+1,j,A,rfl,rfl,?_⟩,msr A⟩;rw[O];exact R
  have J:=geB hk (by simpa using J);subst J;rw[Xad,Xam (by rw[T.len];exact Xaf _)]at R;simp only[go_sem,I,E,F,if_true];exact .tup _ _ (.cons _ _ _ _ (.row _ _ _ R (ConvE.refl _)) (.cons _ _ _ _ (.refl _) .nil))
def LN(L:List (List Decision))(hl:L.length<=1048576)(hd:∀d∈L,d.length<=1048576):PC prog 7 [.sl (L.map nG),.sl (L.map nG)] (boo true):=by
 refine pcd func7 rfl rfl ?_;simp only[go_sem];refine aA (fun h=>by simp at h) (fun h=>?_);simp only[go_sem];refine⟨fun ρ H=>∃(k:Nat),k<=L.length/\ρ 0=.sl (L.map nG)/\ρ 1=.sl (L.map nG)/\ρ 5=int k,fun ρ _=>L.length-aU (ρ 5),⟨0,Xab _,by simp only[go_sem],by simp only[go_sem],(by simp only[go_sem];rfl)⟩,?_⟩;rintro ρ H ⟨k,hk,J,M,F⟩;simp only[go_sem,J,M,F];refine aA (fun I=>?_) (fun O=>?_)
 ·have I:=ltB (by simpa using I);obtain⟨d,E⟩:=aO I;have T:=inB I;have aa:=hd d (Xac E);simp only[go_sem,J,M,F,aC E,T,Xaa,nG];refine dD (by rfl) (by kernel_rfl) ?_;simp only[go_sem,J,M,F,aC E,T,Xaa,nG];refine aA (fun h=>by simp at h) (fun h=>?_);simp only[go_sem];refine⟨fun ρ H=>∃m:Nat,m<=d.length/\ρ 0=.sl (L.map nG)/\ρ 1=.sl (L.map nG)/\ρ 5=int (k:Nat)/\ρ 6=int (m:Nat),fun ρ _=>d.length-aU (ρ 6),⟨0,Xab _,by simp only[go_sem,J],by simp only[go_sem,M],by simp only[go_sem,F],(by simp only[go_sem];rfl)⟩,?_⟩;clear J M F;rintro ρ H ⟨m,hm,J,M,F,U⟩;simp only[go_sem,J,M,F,U,aC E,T,Xaa,nG];refine aA (fun A=>?_) (fun Z=>?_)
  ·have A:=ltB (by simpa using A);obtain⟨c,Y⟩:=aO A;have X:=inB A;simp only[go_sem,J,M,F,U,aC E,aC Y,T,X,Xaa,nG];refine dD (by rfl) (by kernel_rfl) ?_;simp only[go_sem,J,M,F,U,aC E,aC Y,T,X,Xaa,nG];refine aA (fun h=>by simp at h) (fun h=>?_);simp only[go_sem,U,aT m];exact⟨⟨m+1,A,J,M,F,rfl⟩,by simp only[aF];omega⟩
  simp only[go_sem,F,aT k];exact⟨⟨k+1,I,J,M,rfl⟩,by simp only[aF];omega⟩
 have O:=geB hk (by simpa using O);subst O;simp only[go_sem];exact .refl _
end Go.Proofs.YtkjdacijpeiphaaGreatDoor.Ve
end
section
namespace Go.Aw.D
open Go.Aw Go.RowKit Go.Proofs Go.Proofs.YtkjdacijpeiphaaGreatDoor Go.WideShapes Go.ChangeShapes
def Iq:List (String×DataW Unit):=[("math/bits.deBruijn32tab",Go.Proofs.YtkjdacijpeiphaaGreatDoor.Rows.laid_math_bits_deBruijn32tab),("math/bits.deBruijn64tab",Go.Proofs.YtkjdacijpeiphaaGreatDoor.Rows.laid_math_bits_deBruijn64tab),("internal/strconv.uint64pow10",Go.Proofs.YtkjdacijpeiphaaGreatDoor.Rows.laid_internal_strconv_uint64pow10)]
theorem UR:(Go.Proofs.YtkjdacijpeiphaaGreatDoor.Rows.laid_math_bits_deBruijn64tab:DataW Unit)=Lib.tabData .u8 (Lib.deBruijn64tab.map fun z:Nat=>(z:Int)):=by kernel_rfl
theorem VR:(Go.Proofs.YtkjdacijpeiphaaGreatDoor.Rows.laid_internal_strconv_uint64pow10:DataW Unit)=Lib.tabData .u64 Lib.pow10Tab:=by kernel_rfl
theorem RK{W:World}(h:laidMetH Tryz.prog Iq W):Hs W:=by
 have h0:laidMet Tryz.prog Iq W:=(Go.MakeChecks.laidMetH_plain Tryz.prog Iq W (by kernel_rfl))▸h;have h1:=laidMet.tail h0;have A:=laidMet.tail h1;rw[UR]at h1;rw[VR]at A;have b:=Lib.tabIs_of_head (g:=3) (by kernel_rfl) (by kernel_rfl) (t:=350) (e:=5) (n:=64) Tryz.underlying350 Tryz.underlying5 (by kernel_rfl) (by kernel_rfl) h1;have p:=Lib.tabIs_of_head (g:=1) (by kernel_rfl) (by kernel_rfl) (t:=337) (e:=318) (n:=20) Tryz.underlying337 Tryz.underlying318 (by kernel_rfl) (by kernel_rfl) A;unfold Lib.TabIs World.var? at b p;rw[show Tryz.prog.globalNamed "math/bits.deBruijn64tab" = some 3 by kernel_rfl]at b;rw[show Tryz.prog.globalNamed "internal/strconv.uint64pow10" = some 1 by kernel_rfl]at p;intro t E;simp only[QG,List.mem_cons,List.not_mem_nil,or_false]at E;rcases E with rfl|rfl
 . exact p
 . have:OH=((Lib.deBruijn64tab.map fun z:Nat=>(z:Int)).map fun z=>Value.int .u8 z).toArray:=by simp[OH]
   rw[this];exact b
end Go.Aw.D
end
