import Derived.Test.YtgncgpcpbadfnaaGreatDoorVc08
set_option linter.unusedSimpArgs false
set_option linter.unusedVariables false
set_option linter.defProp false
set_option maxRecDepth 100000
namespace Go.Proofs.YtgncgpcpbadfnaaGreatDoor
open Go.Aw Go.Aw.D Go.Proofs Ty
namespace Nu
open Go.Proofs.Tryz
open Go.Nu
def J3{α:Type}{l:List α}{k:Nat}{x:α}(h:l[k]?=some x):l.drop k=x::l.drop (k+1):=by obtain⟨A,e⟩:=List.getElem?_eq_some_iff.1 h;rw[List.drop_eq_getElem_cons A,e]
def Mb(ns:List Int)(xs:List ByteArray)(hn:∀n∈ns,-9223372036854775808<=n/\n<=9223372036854775807)(hl:xs.length<=1048576)(hs:∀s∈xs,s.size<=1048576):
  PC prog 110 [.sl (ns.map aQ),.sl (xs.map Go.Aw.D.dL)] (.tup [str (iD ns xs).1,int (iD ns xs).2]):=by
 refine pcd func110 rfl rfl ?_;simp only[go_sem];refine aA (fun ab=>?_) (fun ac=>?_)
 ·have ab:ns.length≠xs.length:=neN ab;simp only[go_sem];rw[show iD ns xs=(emp,2)from if_pos ab];exact .refl _
 have ac:ns.length=xs.length:=eqN ac;have e0:iD ns xs=if xs.any (fun x=> !cZ x)=true then(emp,3)else pW (ns.zip xs) (dec 0):=if_neg (by simp[ac])
 rw[e0];simp only[go_sem,Xaa];refine⟨fun ρ H=>∃(k:Nat),k<=xs.length/\ρ 0=.sl (ns.map aQ)/\ρ 1=.sl (xs.map Go.Aw.D.dL)/\ρ 18=.sl (xs.map Go.Aw.D.dL)/\ρ 19=int xs.length/\ρ 20=int k/\∀s∈xs.take k,cZ s=true,fun ρ _=>xs.length-aT (ρ 20),
  ⟨0,Xab _,by simp only[go_sem],by simp only[go_sem],by simp only[go_sem],by simp only[go_sem,Xaa],by simp only[go_sem];rfl,by simp⟩,?_⟩
 rintro ρ H ⟨k,hk,h0,h1,U,Y,X,hz⟩;simp only[go_sem,h0,h1,U,Y,X];refine aA (fun A=>?_) (fun I=>?_)
 ·have A:=ltB A;obtain⟨s,E⟩:=aM A;have b1:=inB A;simp only[go_sem,h0,h1,U,Y,X,aC E,b1];refine aP (rL s (hs s (Xac E))) ?_;simp only[go_sem,h0,h1,U,Y,X];refine aA (fun T=>?_) (fun T=>?_)
  ·simp only[go_sem];rw[if_pos (E5 E T)];exact .refl _
  ·simp only[go_sem,h0,h1,U,Y,X,aV k];exact⟨⟨k+1,A,rfl,fG E (by simpa using T) hz⟩,by simp only[aF];omega⟩
 have I:=geB hk I;subst I;rw[Xae]at hz;have hR:xs.any (fun s=> !cZ s)=false:=Ch fun s hs=>by rw[hz s hs];rfl
 rw[hR];simp only[go_sem,h0,h1,Xaa];refine⟨fun ρ H=>∃(k:Nat) (t:ByteArray),k<=xs.length/\ρ 0=.sl (ns.map aQ)/\ρ 28=.sl (xs.map Go.Aw.D.dL)/\ρ 29=int xs.length/\ρ 8=str t/\ρ 30=int k/\t.size<=1048576/\pW (ns.zip xs) (dec 0)=pW ((ns.zip xs).drop k) t,fun ρ _=>xs.length-aT (ρ 30),
  ⟨0,dec 0,Xab _,by simp only[go_sem,h0],by simp only[go_sem],by simp only[go_sem,Xaa],by simp only[go_sem];rw[Fx],by simp only[go_sem];rfl,by rw[<-Fx];decide,rfl⟩,?_⟩
 clear h0 h1 U Y X;rintro ρ H ⟨k,t,hk,h0,O,J,Z,M,ht,af⟩;rw[af];have aj:(ns.zip xs).length=xs.length:=by rw[List.length_zip];omega
 simp only[go_sem,h0,O,J,Z,M];refine aA (fun A=>?_) (fun I=>?_)
 ·have A:=ltB A;obtain⟨s,E⟩:=aM A;obtain⟨n,aa⟩:=aM (l:=ns) (k:=k) (by omega);have b1:=inB A;have b2:=inB (show k<ns.length by omega);have ai:=hs s (Xac E);have ae:=hn n (Xac aa);have ag:(ns.zip xs)[k]?=some (n,s):=by rw[List.getElem?_zip_eq_some];exact⟨aa,E⟩
  have ah:n.natAbs<dE:=Q6 (k:=20) (by omega) (by decide);have ak:=Go.Nu.gS ah;rw[J3 ag,pW];simp only[go_sem,h0,O,J,Z,M,aC E,aC aa,b1,b2];refine aP (AF n ae.1 ae.2) ?_;simp only[go_sem,h0,O,J,Z,M];refine aP (ahL (zed n) s (by omega) ai) ?_;simp only[go_sem,h0,O,J,Z,M];refine aA (fun T=>?_) (fun T=>?_)
  ·have T:(BN (zed n) s).2≠0:=by simpa using T
   simp only[go_sem];rw[if_pos T];exact .refl _
  have T:(BN (zed n) s).2=0:=by simpa using T
  have hm:=yH (QU T);rw[if_neg (by simp[T])];generalize (BN (zed n) s).1=m at *;simp only[go_sem,h0,O,J,Z,M];refine aP (zG t m ht (by omega)) ?_;simp only[go_sem,h0,O,J,Z,M];refine aA (fun F=>?_) (fun F=>?_)
  ·have F:(CZ t m).2≠0:=by simpa using F
   simp only[go_sem];rw[if_pos F];exact .refl _
  have F:(CZ t m).2=0:=by simpa using F
  have ha:=yH (FX F);rw[if_neg (by simp[F])];simp only[go_sem,h0,O,J,Z,M,aV k];exact⟨⟨k+1,_,A,rfl,rfl,by omega,rfl⟩,by simp only[aF];omega⟩
 ·have I:=geB hk I;subst I;rw[List.drop_of_length_le (by omega)];simp only[go_sem,Z];exact .refl _
end Nu
namespace Nu
open Go.Nu
end Nu
end Go.Proofs.YtgncgpcpbadfnaaGreatDoor
