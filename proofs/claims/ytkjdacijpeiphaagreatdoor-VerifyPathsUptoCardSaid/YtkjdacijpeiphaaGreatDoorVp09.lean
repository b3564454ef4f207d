import Derived.Test.YtkjdacijpeiphaaGreatDoorVp08
set_option linter.unusedSimpArgs false
set_option linter.unusedVariables false
set_option linter.defProp false
set_option maxRecDepth 100000
namespace Go.Proofs.YtkjdacijpeiphaaGreatDoor
open Go.Aw Go.Aw.D Go.Proofs Ty
namespace Nu
open Go.Proofs.Tryz
open Go.Nu
def IY{α:Type}{l:List α}{k:Nat}{x:α}(h:l[k]?=some x):l.drop k=x::l.drop (k+1):=by obtain⟨A,e⟩:=List.getElem?_eq_some_iff.1 h;rw[List.drop_eq_getElem_cons A,e]
def Kd(ns:List Int)(xs:List ByteArray)(hn:∀n∈ns,-9223372036854775808<=n/\n<=9223372036854775807)(hl:xs.length<=1048576)(hs:∀s∈xs,s.size<=1048576):
  PC prog 85 [.sl (ns.map aQ),.sl (xs.map Go.Aw.D.dB)] (.tup [str (fX ns xs).1,int (fX ns xs).2]):=by
 refine pcd func85 rfl rfl ?_;simp only[go_sem];refine aA (fun ac=>?_) (fun ab=>?_)
 ·have ac:ns.length≠xs.length:=neN ac;simp only[go_sem];rw[show fX ns xs=(emp,2)from if_pos ac];exact .refl _
 have ab:ns.length=xs.length:=eqN ab;have e0:fX ns xs=if xs.any (fun x=> !cP x)=true then(emp,3)else nK (ns.zip xs) (dec 0):=if_neg (by simp[ab])
 rw[e0];simp only[go_sem,Xaa];refine⟨fun ρ H=>∃(k:Nat),k<=xs.length/\ρ 0=.sl (ns.map aQ)/\ρ 1=.sl (xs.map Go.Aw.D.dB)/\ρ 18=.sl (xs.map Go.Aw.D.dB)/\ρ 19=int xs.length/\ρ 20=int k/\∀s∈xs.take k,cP s=true,fun ρ _=>xs.length-aU (ρ 20),
  ⟨0,Xab _,by simp only[go_sem],by simp only[go_sem],by simp only[go_sem],by simp only[go_sem,Xaa],by simp only[go_sem];rfl,by simp⟩,?_⟩
 rintro ρ H ⟨k,hk,h0,h1,X,Y,U,hz⟩;simp only[go_sem,h0,h1,X,Y,U];refine aA (fun A=>?_) (fun J=>?_)
 ·have A:=ltB A;obtain⟨s,E⟩:=aO A;have b1:=inB A;simp only[go_sem,h0,h1,X,Y,U,aC E,b1];refine aP (pS s (hs s (Xac E))) ?_;simp only[go_sem,h0,h1,X,Y,U];refine aA (fun T=>?_) (fun T=>?_)
  ·simp only[go_sem];rw[if_pos (Di E T)];exact .refl _
  ·simp only[go_sem,h0,h1,X,Y,U,aT k];exact⟨⟨k+1,A,rfl,fI E (by simpa using T) hz⟩,by simp only[aF];omega⟩
 have J:=geB hk J;subst J;rw[Xad]at hz;have hR:xs.any (fun s=> !cP s)=false:=AJ fun s hs=>by rw[hz s hs];rfl
 rw[hR];simp only[go_sem,h0,h1,Xaa];refine⟨fun ρ H=>∃(k:Nat) (t:ByteArray),k<=xs.length/\ρ 0=.sl (ns.map aQ)/\ρ 28=.sl (xs.map Go.Aw.D.dB)/\ρ 29=int xs.length/\ρ 8=str t/\ρ 30=int k/\t.size<=1048576/\nK (ns.zip xs) (dec 0)=nK ((ns.zip xs).drop k) t,fun ρ _=>xs.length-aU (ρ 30),
  ⟨0,dec 0,Xab _,by simp only[go_sem,h0],by simp only[go_sem],by simp only[go_sem,Xaa],by simp only[go_sem];rw[EL],by simp only[go_sem];rfl,by rw[<-EL];decide,rfl⟩,?_⟩
 clear h0 h1 X Y U;rintro ρ H ⟨k,t,hk,h0,M,I,Z,O,ht,af⟩;rw[af];have aj:(ns.zip xs).length=xs.length:=by rw[List.length_zip];omega
 simp only[go_sem,h0,M,I,Z,O];refine aA (fun A=>?_) (fun J=>?_)
 ·have A:=ltB A;obtain⟨s,E⟩:=aO A;obtain⟨n,aa⟩:=aO (l:=ns) (k:=k) (by omega);have b1:=inB A;have b2:=inB (show k<ns.length by omega);have ai:=hs s (Xac E);have ae:=hn n (Xac aa);have ag:(ns.zip xs)[k]?=some (n,s):=by rw[List.getElem?_zip_eq_some];exact⟨aa,E⟩
  have ah:n.natAbs<cU:=MS (k:=20) (by omega) (by decide);have ak:=Go.Nu.fT ah;rw[IY ag,nK];simp only[go_sem,h0,M,I,Z,O,aC E,aC aa,b1,b2];refine aP (yD n ae.1 ae.2) ?_;simp only[go_sem,h0,M,I,Z,O];refine aP (Zz (zed n) s (by omega) ai) ?_;simp only[go_sem,h0,M,I,Z,O];refine aA (fun T=>?_) (fun T=>?_)
  ·have T:(yW (zed n) s).2≠0:=by simpa using T
   simp only[go_sem];rw[if_pos T];exact .refl _
  have T:(yW (zed n) s).2=0:=by simpa using T
  have hm:=wI (Ov T);rw[if_neg (by simp[T])];generalize (yW (zed n) s).1=m at *;simp only[go_sem,h0,M,I,Z,O];refine aP (wD t m ht (by omega)) ?_;simp only[go_sem,h0,M,I,Z,O];refine aA (fun F=>?_) (fun F=>?_)
  ·have F:(BO t m).2≠0:=by simpa using F
   simp only[go_sem];rw[if_pos F];exact .refl _
  have F:(BO t m).2=0:=by simpa using F
  have ha:=wI (EE F);rw[if_neg (by simp[F])];simp only[go_sem,h0,M,I,Z,O,aT k];exact⟨⟨k+1,_,A,rfl,rfl,by omega,rfl⟩,by simp only[aF];omega⟩
 ·have J:=geB hk J;subst J;rw[List.drop_of_length_le (by omega)];simp only[go_sem,Z];exact .refl _
end Nu
namespace Nu
open Go.Nu
end Nu
end Go.Proofs.YtkjdacijpeiphaaGreatDoor
