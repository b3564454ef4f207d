import Derived.Shelf.Spec.SlicesGrow
import Derived.Test.YthbiheckeoknlaaGreatDoorPp08
set_option linter.unusedSimpArgs false
set_option linter.unusedVariables false
set_option linter.defProp false
set_option maxRecDepth 100000
section
namespace Go.Proofs.YthbiheckeoknlaaGreatDoor.Sp
open Go.Proofs.Tryz
open Go.Aw Go.Aw.D Go.Proofs Ty
open Go.Proofs.YthbiheckeoknlaaGreatDoor (cP fG)
open Go.Proofs.YthbiheckeoknlaaGreatDoor.Nw
open Go.Proofs.YthbiheckeoknlaaGreatDoor.Sk
open Go.Proofs.YthbiheckeoknlaaGreatDoor.Sc
open Go.RowKit (Below)
theorem Ml(s:ByteArray)(a:Nat)(ha:a≤s.size)(hs:s.size≤1048576):PC prog 83 [str s,int a] (int (iU s a)):=by
 refine pcd func83 rfl rfl ?_;simp only[go_sem];refine⟨fun ρ _=>∃k:Nat,k≤s.size∧ρ 0=str s∧ρ 1=int k∧iU s k=iU s a,fun ρ _=>s.size-bO (ρ 1),⟨a,ha,by simp only[go_sem],by simp only[go_sem],rfl⟩,?_⟩;rintro ρ H ⟨k,hk,e0,e1,hr⟩;simp only[go_sem,e0,e1];have hcond:(decide ((k:Int)<(s.size:Int))&&decide (((s.data.getD k 0).toNat:Int)≥33)&&decide (((s.data.getD k 0).toNat:Int)≤126)&&((s.data.getD k 0).toNat:Int) != 34)=(decide (k<s.size)&&okc (s.data.getD k 0)):=by unfold okc okC;generalize (s.data.getD k 0).toNat=c;rw[Xaw];simp only[Xag,decide_eq_true_eq,bne_iff_ne,Xay,Xaq,decide_eq_false_iff_not,beq_eq_false_iff_ne];omega
 have hg:decide ((k:Int)<(s.size:Int))=true→0≤(k:Int)∧(k:Int)<(s.size:Int):=fun h=>by have:=of_decide_eq_true h;omega
 refine⟨hg,fun h=>hg h.1,fun h=>hg h.1.1,?_⟩;rw[hcond];refine aA (fun hb=>?_) (fun hb=>?_)
 ·rw[Xag,decide_eq_true_eq]at hb;simp only[go_sem,e0,e1,cH k];exact⟨⟨k+1,hb.1,rfl,by rw[QV hb.1 hb.2,hr]⟩,by simp only[aE];omega⟩
 ·have hm : s.size ≤ k ∨ okc (s.data.getD k 0) = false := by
   rcases Xbd.1 hb with h|h
   ·exact .inl (by have:=of_decide_eq_false h;omega)
   ·exact .inr h
  simp only[go_sem,e0,e1];rw[←hr,NH hm];exact .refl _
theorem Sn(c:Nat)(hc:c<256):UC prog 204 [.v (.int .u8 (c:Nat))] fun r=>∃f:ByteArray,r=str f∧1≤f.size∧f.size≤4:=by
 refine UC.body (c:=f204.body.getD .skip) (fun _=>false) mixed func204 rfl (by kernel_rfl) ?_;unfold f204;simp only[Xai];simp only[go_sem];refine aA (fun _=>?_) (fun _=>?_)
 ·simp only[go_sem];exact⟨_,⟨_,rfl,by decide,by decide⟩,.refl _⟩
 simp only[go_sem];refine aA (fun _=>?_) (fun _=>?_)
 ·simp only[go_sem];exact⟨_,⟨_,rfl,by decide,by decide⟩,.refl _⟩
 simp only[go_sem];refine aA (fun _=>?_) (fun _=>?_)
 ·simp only[go_sem];exact⟨_,⟨_,rfl,by decide,by decide⟩,.refl _⟩
 simp only[go_sem];refine aA (fun _=>?_) (fun _=>?_)
 ·simp only[go_sem];refine lK (by rfl) (by kernel_rfl) ?_;simp only[go_sem];have e1:IntKind.u8.wrap (((c:Nat):Int).tdiv 16)=((c/16:Nat):Int):=by rw[show((c:Nat):Int).tdiv 16=((c/16:Nat):Int)from(Int.ofNat_tdiv c 16).symm,show IntKind.u8.wrap ((c/16:Nat):Int)=((c/16:Nat):Int)%256 from rfl];omega
  have e2:IntKind.u8.wrap (((c/16:Nat):Int)+1)=((c/16+1:Nat):Int):=by rw[show IntKind.u8.wrap (((c/16:Nat):Int)+1)=(((c/16:Nat):Int)+1)%256 from rfl];omega
  have e3:((c:Nat):Int).tmod 16=((c%16:Nat):Int):=(Int.ofNat_tmod c 16).symm;have e4:IntKind.u8.wrap (((c%16:Nat):Int)+1)=((c%16+1:Nat):Int):=by rw[show IntKind.u8.wrap (((c%16:Nat):Int)+1)=(((c%16:Nat):Int)+1)%256 from rfl];omega
  have hz:∀a b:Nat,a≤b→b≤16→((⟨#[48,49,50,51,52,53,54,55,56,57,97,98,99,100,101,102]⟩:ByteArray).extract a b).size=b-a:=fun a b h1 h2=>by rw[ByteArray.size_extract];show min b 16-a=b-a;omega
  rw[e1,e2,e3,e4];simp only[Int.toNat_natCast];have z1:=hz (c/16) (c/16+1) (by omega) (by omega);have z2:=hz (c%16) (c%16+1) (by omega) (by omega);refine⟨by decide,by decide,⟨by omega,?_⟩,?_,by decide,by decide,⟨by omega,by omega,?_⟩,?_,_,⟨_,rfl,?_,?_⟩,.refl _⟩
  ·show((c/16+1:Nat):Int)≤((16:Nat):Int);omega
  ·rw[z1,bA];show((2+(c/16+1-c/16):Nat):Int)≤_;omega
  ·show((c%16+1:Nat):Int)≤((16:Nat):Int);omega
  ·rw[z1,z2,bA];show((2+(c/16+1-c/16)+(c%16+1-c%16):Nat):Int)≤_;omega
  ·rw[ByteArray.size_append,ByteArray.size_append,z1,z2];show 1≤2+(c/16+1-c/16)+(c%16+1-c%16);omega
  ·rw[ByteArray.size_append,ByteArray.size_append,z1,z2];show 2+(c/16+1-c/16)+(c%16+1-c%16)≤4;omega
 ·simp only[go_sem];exact⟨_,⟨_,rfl,by rw[nQ];decide,by rw[nQ];decide⟩,.refl _⟩
theorem PM(s:ByteArray)(a:Nat)(ha:a≤s.size)(hs:s.size≤1048576):UC prog 148 [str s,int a] fun r=>∃(b:Int) (k:Nat) (ok:Bool),r=.tup [.v (.int .u8 b),int k,boo ok]∧(ok=true→a<k∧k≤s.size):=by
 refine UC.body (c:=f148.body.getD .skip) (fun _=>false) mixed func148 rfl (by kernel_rfl) ?_;unfold f148;simp only[Xai];simp only[go_sem];refine⟨fun ρ _=>∃k:Nat,k≤256∧ρ 0=str s∧ρ 1=int a∧ρ 7=int k,fun ρ _=>256-bO (ρ 7),⟨0,by decide,by simp only[go_sem],by simp only[go_sem],by simp only[go_sem];rfl⟩,?_⟩;rintro ρ H ⟨k,hk,e0,e1,e7⟩;simp only[go_sem,e0,e1,e7];refine aA (fun hlt=>?_) (fun hge=>?_)
 ·have hlt : k < 256 := by have:=of_decide_eq_true hlt;omega
  have hw8:IntKind.u8.wrap ((k:Nat):Int)=((k:Nat):Int):=by rw[show IntKind.u8.wrap ((k:Nat):Int)=((k:Nat):Int)%256 from rfl];omega
  simp only[go_sem,e0,e1,e7,hw8];refine(Sn k hlt).use ?_;rintro _ ⟨f,rfl,hf1,hf4⟩;simp only[go_sem,e0,e1,e7];rw[show IntKind.i64.wrap ((s.size:Int)-(a:Int))=((s.size-a:Nat):Int)by rw[dI (by omega)];omega,show IntKind.i64.wrap ((a:Int)+(f.size:Int))=((a+f.size:Nat):Int)by rw[dI (by omega)];omega];refine⟨fun h=>?_,aA (fun hb=>?_) (fun _=>?_)⟩
  ·have:=of_decide_eq_true h;omega
  ·rw[Xag,decide_eq_true_eq]at hb;have hb:=hb.1;simp only[go_sem,e0,e1,e7,hw8];rw[show IntKind.i64.wrap ((a:Int)+(f.size:Int))=((a+f.size:Nat):Int)by rw[dI (by omega)];omega];exact⟨_,⟨_,_,_,rfl,fun _=>by omega⟩,.refl _⟩
  ·simp only[go_sem,e0,e1,e7,cH k];exact⟨⟨k+1,hlt,rfl⟩,by simp only[aE];omega⟩
 ·simp only[go_sem,e0,e1,e7];exact⟨_,⟨_,_,_,rfl,fun h=>by cases h⟩,.refl _⟩
theorem Km(s:ByteArray)(a:Nat)(ha:a≤s.size)(hs:s.size≤1048576):UC prog 84 [str s,int a] fun r=>∃(t:ByteArray) (k:Nat) (ok:Bool),r=.tup [str t,int k,boo ok]∧(ok=true→a<k∧k≤s.size∧s.data.getD a 0=34∧s.data.getD (k-1) 0=34):=by
 refine UC.body (c:=f84.body.getD .skip) (fun t=>t == 7||t == 54) mixed func84 rfl (by kernel_rfl) ?_;unfold f84;simp only[Xai];simp only[go_sem];refine⟨fun hg=>?_,aA (fun _=>?_) (fun hb=>?_)⟩
 ·have:¬((a:Int)≥(s.size:Int)):=by simpa using hg
  omega
 ·simp only[go_sem];exact⟨_,⟨_,_,_,rfl,fun h=>by cases h⟩,.refl _⟩
 rw[Xaq]at hb;have hlt:a<s.size:=by have:=of_decide_eq_false hb.1;omega
 have h34:s.data.getD a 0=34:=(BD (k:=34) (by decide)).1 (by simpa using hb.2);simp only[go_sem];refine aL fun i HGi hi0 (Ri:HGi i=some (Gp [])) N=>?_
 clear N hi0;simp only[go_sem,Ri,cH a];refine⟨fun ρ H=>∃(k i:Nat) (l:List Int),a<k∧k≤s.size∧l.length≤k∧ρ 0=str s∧ρ 1=int k∧ρ 7=.os i∧H i=some (Gp l),fun ρ _=>s.size-bO (ρ 1),⟨a+1,i,[],by omega,hlt,Xad _,by simp only[go_sem],by simp only[go_sem],by simp only[go_sem],Ri⟩,?_⟩;clear Ri;rintro ρ H ⟨k,i,l,hak,hk,hl,e0,e1,e7,Ri⟩;simp only[go_sem,e0,e1,e7];refine⟨fun h=>?_,aA (fun hb=>?_) (fun hb=>?_)⟩
 ·have:=of_decide_eq_true h;omega
 ·rw[Xag,decide_eq_true_eq]at hb;have hlt:k<s.size:=by omega
  simp only[go_sem,e0,e1,e7];refine(PM s k hk hs).use ?_;rintro _ ⟨b,k2,ok,rfl,hok⟩;simp only[go_sem,e0,e1,e7];refine aA (fun _=>?_) (fun hb=>?_)
  ·simp only[go_sem,e0,e1,e7];exact⟨_,⟨_,_,_,rfl,fun h=>by cases h⟩,.refl _⟩
  obtain⟨h1,h2⟩:=hok (by simpa using hb);simp only[go_sem,e0,e1,e7];refine aP Ri ⟨rfl,rfl⟩ (by simp only[go_sem]) (by simp only[Xab,Xaa,List.length_nil];omega) fun j' hj'=>?_
  simp only[go_sem,e0,e1,e7];exact⟨⟨k2,j',l++[b],by omega,h2,by simp only[Xac,Xaa,List.length_nil];omega,rfl,rfl,by rw[aD];simp[Gp]⟩,by simp only[aE];omega⟩
 ·simp only[go_sem,e0,e1,e7];refine aA (fun _=>?_) (fun hge=>?_)
  ·simp only[go_sem,e0,e1,e7];exact⟨_,⟨_,_,_,rfl,fun h=>by cases h⟩,.refl _⟩
  have hlt:k<s.size:=by have:=of_decide_eq_false hge;omega
  have hk34:s.data.getD k 0=34:=by rw[decide_eq_true (by omega),Bool.true_and]at hb;exact(BD (k:=34) (by decide)).1 (by simpa using hb)
  simp only[go_sem,e0,e1,e7,Ri];refine Ee (by simp only[go_sem,e7]) Ri fun Hr _ _=>?_
  simp only[go_sem,e0,e1,e7,cH k];rw[vM];exact⟨_,⟨_,k+1,_,rfl,fun _=>⟨by omega,hlt,h34,hk34⟩⟩,.refl _⟩
theorem Bm(s:ByteArray)(hs:s.size≤1048576):UC prog 40 [str s] fun r=>∃(l:List ByteArray) (e:Int),(FI s l e∧(e≠0→l=[]))∧r=.tup [.sl (l.map D.bE),int e]:=by
 refine UC.body (c:=f40.body.getD .skip) (fun t=>t == 4) mixed func40 rfl (by kernel_rfl) ?_;unfold f40;simp only[Xai];simp only[go_sem];refine aL fun i HGi hi0 (Ri:HGi i=some (cA [])) N=>?_
 clear N hi0;simp only[go_sem,Ri];refine⟨fun ρ H=>∃(k i:Nat) (l:List ByteArray),k≤s.size∧l.length≤k∧(∀p∈l,hJ p=true)∧ρ 0=str s∧ρ 5=int k∧ρ 4=.os i∧H i=some (cA l) ∧
   (((l=[]→k=0)∧(l≠[]→0<k∧s.data.getD (k-1) 0=32)∧s=aG spB (l++[s.extract k s.size])∧∀ws,oE s ws→∃r,ws=l++r∧r≠[]∧s.extract k s.size=aG spB r) ∨
    (l≠[]∧k=s.size∧0<k∧s.data.getD (k-1) 0≠32∧s=aG spB l∧∀ws,oE s ws→ws=l)),fun ρ _=>s.size-bO (ρ 5),⟨0,i,[],Xad _,Xad _,by simp,by simp only[go_sem],by simp only[go_sem];rfl,by simp only[go_sem],Ri,.inl ⟨fun _=>rfl,fun h=>absurd rfl h,by simp[vA],fun ws h=>⟨ws,rfl,h.1,by rw[←h.2.2];simp⟩⟩⟩,?_⟩
 clear Ri;rintro ρ H ⟨k,i,l,hk,hl,hp,e0,e5,e4,Ri,hc⟩;simp only[go_sem,e0,e4,e5,Ri];refine⟨fun⟨_,h2,h3⟩=>?_,aA (fun hb=>?_) (fun hb=>?_)⟩
 · have h3:=eq_of_beq h3;have hl0:l≠[]:=fun e=>by rw[e]at h2;exact absurd h2 (by decide)
   have h0:0<k:=by
     rcases hc with⟨_,h,_⟩|⟨_,_,h,_⟩
     · exact(h hl0).1
     · exact h
   rw[dI (by omega)];omega
 · obtain ⟨c1, c2, c3, c4⟩ : (l = [] → k = 0) ∧ (l ≠ [] → 0 < k ∧ s.data.getD (k - 1) 0 = 32) ∧ s = aG spB (l ++ [s.extract k s.size]) ∧ ∀ ws, oE s ws → ∃ r, ws = l ++ r ∧ r ≠ [] ∧ s.extract k s.size = aG spB r := by
     rcases hc with hc|⟨b1,b2,b3,b4,_⟩
     · exact hc
     · exfalso;rw[b2,decide_eq_false (by omega),Bool.false_or,Xag]at hb;rw[dI (by omega),show((s.size:Int)-1).toNat=s.size-1 by omega]at hb;have h2:s.data.getD (s.size-1) 0=32:=(BD (k:=32) (by decide)).1 hb.2;rw[b2]at b4;exact b4 h2
   clear hc hb;have bare:∀ws,oE s ws→∃w r,ws=l++w::r∧aW w=true∧s.extract k s.size=aG spB (w::r):=fun ws hw=>by
     obtain⟨r,e1,e2,e3⟩:=c4 ws hw;cases r with
     | nil=>exact absurd rfl e2
     | cons w r=>exact⟨w,r,e1,hw.2.1 w (by rw[e1];simp),e3⟩
   obtain⟨hr1,hr2⟩:=PI (s:=s) hk;simp only[go_sem,e0,e4,e5];refine bB (Ml s k hk hs) ?_;simp only[go_sem,e0,e4,e5];have no3:(∀ws,¬oE s ws)→∀H',∃r,(∃(l:List ByteArray) (e:Int),(FI s l e∧(e≠0→l=[]))∧r=.tup [.sl (l.map D.bE),int e])∧Conv H' (.tup [.sl [],int 3]) r:=fun hno H'=>⟨_,⟨[],3,⟨⟨fun h=>absurd h (by decide),fun ws h=>absurd h (hno ws),fun h=>absurd h (by decide),fun h=>absurd h (by decide)⟩,fun _=>rfl⟩,rfl⟩,.refl _⟩
   refine eR (fun ρ' H'=>∃e:Nat,k<e∧e≤s.size∧hJ (s.extract k e)=true∧s.data.getD (e-1) 0≠32∧(∀ws,oE s ws→e=iU s k)∧ρ' 0=str s∧ρ' 5=int k∧ρ' 4=.os i∧ρ' 6=int e∧H'=H) (fun ρ' H' h=>?_) fun Q' hQ' _ hRet=>aA (fun hb=>?_) (fun hb=>?_)
   rotate_left
   · have hb:=eq_of_beq hb;have hno:∀ws,¬oE s ws:=fun ws hw=>by obtain⟨w,r,e1,e2,e3⟩:=bare ws hw;have:=(wH e2 e3 hk).1;omega
     simp only[go_sem,e0,e4,e5];refine(Km s k hk hs).use ?_;rintro _ ⟨t,k2,ok,rfl,hok⟩;simp only[go_sem,e0,e4,e5];refine aA (fun _=>?_) (fun hb=>?_)
     · simp only[go_sem,e0,e4,e5];refine hRet _ _ ?_;simp only[go_sem];exact no3 hno _
     obtain⟨q1,q2,q3,q4⟩:=hok (by simpa using hb);simp only[go_sem,e0,e4,e5];refine hQ' _ _ ⟨k2,q1,q2,?_,by rw[q4];decide,fun ws hw=>absurd hw (hno ws),by simp only[go_sem,e0],by simp only[go_sem,e5],by simp only[go_sem,e4],by simp only[go_sem],rfl⟩;unfold hJ xS;have hz:(s.extract k k2).size=k2-k:=by rw[ByteArray.size_extract];omega
     have h0:(s.extract k k2).data.getD 0 0=34:=by rw[iR,eY,List.getD_eq_getElem?_getD,List.getElem?_take_of_lt (by omega),List.getElem?_drop,Nat.add_zero,←List.getD_eq_getElem?_getD,←iR,q3]
     rw[h0,hz,decide_eq_false (by omega)];simp
   · have hb:¬((iU s k:Nat):Int)=(k:Int):=by simpa using hb
     have hne:iU s k≠k:=fun e=>hb (by rw[e])
     simp only[go_sem,e0,e4,e5];refine hQ' _ _ ⟨iU s k,by omega,hr2,?_,PK hne hk,fun _ _=>rfl,by simp only[go_sem,e0],by simp only[go_sem,e5],by simp only[go_sem,e4],by simp only[go_sem],rfl⟩;unfold hJ;rw[Gz hne,Bool.true_or]
   obtain⟨e,hke,hes,hpe,hl32,hrun,e0,e5,e4,e6,rfl⟩:=h;have hp':∀p∈l++[s.extract k e],hJ p=true:=fun p hp2=>by
     rcases Xap.1 hp2 with h|h
     · exact hp p h
     · rw[Xbb.1 h];exact hpe
   simp only[go_sem,e0,e4,e5,e6];refine⟨⟨by omega,by omega,by omega⟩,aP Ri ⟨rfl,rfl⟩ (by simp only[go_sem]) (by simp only[Xab,Xaa,List.length_nil];omega) fun j' hj'=>?_⟩;simp only[go_sem,e0,e4,e5,e6];refine aA (fun hlt=>?_) (fun hge=>?_)
   · have hlt : e < s.size := by have:=of_decide_eq_true hlt;omega
     simp only[go_sem,e0,e4,e5,e6];refine⟨⟨by omega,by omega⟩,aA (fun hb=>?_) (fun hb=>?_)⟩
     · simp only[go_sem];refine no3 (fun ws hw=>?_) _;obtain⟨w,r,g1,g2,g3⟩:=bare ws hw;obtain⟨_,_,h|⟨_,_,h,_⟩⟩:=wH g2 g3 hk
       · rw[←hrun ws hw]at h;omega
       · rw[←hrun ws hw]at h;rw[h]at hb;exact absurd hb (by decide)
     · have h32:s.data.getD e 0=32:=(BD (k:=32) (by decide)).1 (by simpa using hb);simp only[go_sem,e0,e4,e5,e6,cH e];refine⟨⟨e+1,j',l++[s.extract k e],hlt,by simp only[Xac,Xaa,List.length_nil];omega,hp',rfl,rfl,?_,.inl ⟨fun h=>by simp at h,fun _=>⟨by omega,h32⟩,?_,fun ws hw=>?_⟩⟩,by simp only[aE];omega⟩
       · rw[aD,cA,Xal];rfl
       · rw[Xar,List.singleton_append,←uV];refine c3.trans ?_
         congr 3
         exact LX (by omega) hlt h32
       · obtain⟨w,r,g1,g2,g3⟩:=bare ws hw;have:=hrun ws hw;subst this;obtain⟨_,h1,⟨_,h2⟩|⟨h2,_,_,h3⟩⟩:=wH g2 g3 hk
         · omega
         · exact⟨r,by rw[g1,h1];simp,h2,h3⟩
   · have hes2 : e = s.size := by have:=of_decide_eq_false hge;omega
     simp only[go_sem,e0,e4,e5,e6];refine⟨⟨e,j',l++[s.extract k e],hes,by simp only[Xac,Xaa,List.length_nil];omega,hp',rfl,rfl,?_,.inr ⟨by simp,hes2,by omega,hl32,?_,fun ws hw=>?_⟩⟩,by simp only[aE];omega⟩
     · rw[aD,cA,Xal];rfl
     · rw[hes2];exact c3
     · obtain⟨w,r,g1,g2,g3⟩:=bare ws hw;have:=hrun ws hw;subst this;obtain⟨_,h1,⟨h2,_⟩|⟨h2,h3,_⟩⟩:=wH g2 g3 hk
       · rw[g1,h1,h2]
       · omega
 · simp only[go_sem,e0,e4,e5,Ri];have fin:s=aG spB l→(∀ws,oE s ws→ws=l)→∃r,(∃(l:List ByteArray) (e:Int),(FI s l e∧(e≠0→l=[]))∧r=.tup [.sl (l.map D.bE),int e])∧Conv H (.tup [.os i,int 0]) r:=fun h1 h2=>⟨_,⟨l,0,⟨⟨fun _=>hp,fun ws hw=>⟨rfl,(h2 ws hw).symm⟩,fun _ hn hw=>⟨hn,hw,h1⟩,fun _=>⟨by omega,fun p hp=>by have:=bW spB hp;rwa [←h1]at this⟩⟩,fun h=>absurd rfl h⟩,rfl⟩,.tup _ _ (.cons _ _ _ _ (.row _ _ _ Ri (ConvE.refl _)) (.cons _ _ _ _ (.refl _) .nil))⟩
   rcases hc with⟨c1,c2,c3,c4⟩|⟨b1,b2,b3,b4,b5,b6⟩
   · rw[Xaq]at hb;have hks:k=s.size:=by have:=of_decide_eq_false hb.1;omega
     by_cases hl0:l=[]
     · have hk0:=c1 hl0;have hs0:s.size=0:=by omega
       have hse:s=⟨#[]⟩:=gD (Xbh (by rw[bY,hs0]));subst hl0;refine fin hse fun ws hw=>?_
       obtain⟨r,g1,g2,g3⟩:=c4 ws hw;cases r with
       | nil=>exact absurd rfl g2
       | cons w r=>have:=iL (hw.2.1 w (by rw[g1];simp));have h2:=bW spB (w:=w) (l:=ws) (by rw[g1];simp);rw[←hw.2.2]at h2;omega
     · obtain⟨h1,h2⟩:=c2 hl0;have h3:=hb.2;rw[dI (by omega),show((k:Int)-1).toNat=k-1 by omega,h2,decide_eq_true (by have:=Xbf.2 hl0;omega),hks]at h3;simp at h3
   · exact fin b5 b6
end Go.Proofs.YthbiheckeoknlaaGreatDoor.Sp
end
section
namespace Go.Aw
open Go.RowKit
theorem cQ.data{P:Program}{pv:Value}{Z:aC→Prop}{f:FuncId}{args:List AV}{H H1:aC}{K:AV→aC→Prop}{Q:AV→Prop}(hs:∀k,H k=none→H1 k=none)(h:cQ P pv Z f args H fun a H'=>∃r,Q r∧Qm H1 r a H')(hK:∀r,Q r→K r H1):cQ P pv Z f args H K:=by
 intro S w vals hS ha;refine(h S w vals hS ha).mono fun e w' h=>h.imp (fun⟨v,x,H',S',he,⟨r,hq,hm,l,hl,hc⟩,hS',hv,hg,hn⟩=>?_) id
 obtain⟨h1,h2,h3⟩:=hS'.frz l;refine⟨v,r,H1,S'.froze _,he,hK r hq,h1.drop (fun k row hk=>?_),hc.rep h3 hv,hg.trans h2,fun k _ h0=>hs k h0⟩;have hkl:¬k∈l:=fun hkl=>by rw[hl k hkl]at hk;cases hk
 show(if k∈l then none else H' k)=some row;rw[if_neg hkl];exact hm k row hk
end Go.Aw
namespace Go.Proofs.YthbiheckeoknlaaGreatDoor.Sp
open Go.Aw Go.Aw.D Go.Proofs Ty
open Go.Proofs.YthbiheckeoknlaaGreatDoor (cP fG)
open Go.Proofs.YthbiheckeoknlaaGreatDoor.Nw
open Go.Proofs.YthbiheckeoknlaaGreatDoor.Sk
open Go.Proofs.YthbiheckeoknlaaGreatDoor.Sc
open Go.RowKit (Below)
theorem Ps(c:UInt8):∀(n:Nat) (l:List UInt8),l.length=n→∃ps:List (List UInt8),ps≠[]∧(∀p∈ps,c∉p)∧l=Lib.join ps [c]:=by
 intro n;induction n with
 | zero=>intro l hl;exact⟨[[]],by simp,by simp,by rw[List.eq_nil_of_length_eq_zero hl];rfl⟩
 | succ n ih=>
  intro l hl;cases l with
  | nil=>simp at hl
  | cons x r=>
   obtain⟨ps,h1,h2,h3⟩:=ih r (by simpa using hl);cases ps with
   | nil=>exact absurd rfl h1
   | cons p q=>
    by_cases hx:x=c
    ·subst hx;refine⟨[]::p::q,by simp,fun y hy=>?_,by rw[h3];rfl⟩;rcases List.mem_cons.1 hy with rfl|hy
     ·simp
     ·exact h2 y hy
    ·refine⟨(x::p)::q,by simp,fun y hy=>?_,?_⟩
     ·rcases List.mem_cons.1 hy with rfl|hy
      ·have:=h2 p (by simp);simp only[List.mem_cons,not_or];exact⟨fun e=>hx e.symm,this⟩
      ·exact h2 y (by simp[hy])
     ·rw[h3];cases q <;> rfl
theorem rC(c:UInt8)(s:ByteArray):∃ps:List ByteArray,ps≠[]∧(∀p∈ps,c∉p.data.toList)∧s=aG ⟨#[c]⟩ ps:=by
 obtain⟨ps,h1,h2,h3⟩:=Ps c _ (bs s) rfl;refine⟨ps.map fun p=>⟨p.toArray⟩,by simpa using h1,fun p hp=>?_,gD ?_⟩
 ·obtain⟨q,hq,rfl⟩:=List.mem_map.1 hp;exact h2 q hq
 ·rw[show bs (aG ⟨#[c]⟩ _)=_ from vJ _ _,List.map_map,h3]
  congr 1
  exact(List.map_id ps).symm
theorem jF{c:UInt8}{l m:List ByteArray}(hl:l≠[])(hm:m≠[])(h1:∀p∈l,c∉p.data.toList)(h2:∀p∈m,c∉p.data.toList)(h:aG ⟨#[c]⟩ l=aG ⟨#[c]⟩ m):l=m:=by have e1:=lV (c:=c) l hl h1;have e2:=lV (c:=c) m hm h2;rw[←e1,←e2,h]
theorem IE(c:UInt8):∀l:List ByteArray,l.length≤(cS ⟨#[c]⟩ l).size
 | []=>Nat.zero_le _
 | a::r=>by have:=IE c r;rw[bS,ByteArray.size_append,ByteArray.size_append];have h1:(⟨#[c]⟩:ByteArray).size=1:=rfl;simp only[List.length_cons];omega
theorem fX(c:UInt8)(l:List ByteArray):l.length≤(aG ⟨#[c]⟩ l).size+1:=by
 cases l with
 | nil=>exact Nat.zero_le _
 | cons a r=>have:=IE c r;rw[aZ,ByteArray.size_append];simp only[List.length_cons];omega
theorem oX{c:UInt8}(hc:c.toNat<45∨57<c.toNat)(l:List Int):∀p∈l.map aH,c∉p.data.toList:=fun p hp hm=>by obtain⟨n,_,rfl⟩:=List.mem_map.1 hp;exact LI (nR n c hm) hc rfl
def Ok(c:UInt8)(s:ByteArray)(l:List Int):Prop:=l≠[]∧(∀n∈l,bH n)∧s=aG ⟨#[c]⟩ (l.map aH)
section
variable{H:aC}{K:AV→aC→Prop}{Z:aC→Prop}{b:Nat}
theorem JZ{c:UInt8}(hc:c.toNat<45∨57<c.toNat)(s:ByteArray)(hs:s.size≤1048575)(h1:∀l,Ok c s l→K (.sl (l.map D.aY)) H)(h0:(∀l,¬Ok c s l)→∀H',Sup H H'→Z H'):cQ Tryz.prog nO Z 123 [str s,str ⟨#[c]⟩] H K:=by
 obtain⟨ps,hne,hno,hj⟩:=rC c s;have hpl:=fX c ps;rw[←hj]at hpl;have hsp:=LR (c:=c) hne hno (by rw[←hj];omega);rw[←hj]at hsp;have hsz:∀p∈ps,p.size≤1048576:=fun p hp=>by have:=bW ⟨#[c]⟩ hp;rw[←hj]at this;omega
 refine cQ.data (H1:=H) (Q:=fun r=>∃l,Ok c s l∧r=.sl (l.map D.aY)) (fun _ h=>h) ?_ (fun r ⟨l,hq,e⟩=>e▸h1 l hq);refine cQ.body (c:=Tryz.f123.body.getD .skip) (fun t=>t == 5) mixed Tryz.func123 rfl (by kernel_rfl) ?_;unfold Tryz.f123;simp only[Option.getD_some];simp only[go_sem];refine aL fun i HGi hi0 (Ri:HGi i=some (⟨3,1,[]⟩)) N=>?_
 have U:Sup H HGi:=fun _ _ h=>(N h).2
 clear N;simp only[go_sem,Ri];refine(PC.use hsp ?_).x;simp only[go_sem];refine⟨fun ρ H'=>∃(i:Nat) (l:List Int),l.length≤ps.length∧ρ 10=.sl (ps.map D.bE)∧ρ 11=int (ps.length:Nat)∧ρ 12=int (l.length:Nat)∧ρ 5=.os i∧H' i=some ⟨3,1,l.map D.aY⟩∧ps.take l.length=l.map aH∧(∀n∈l,bH n)∧Sup H H'∧H i=none,fun ρ _=>ps.length-bO (ρ 12),⟨i,[],Nat.zero_le _,by simp only[go_sem],by simp only[go_sem,List.length_map],(by simp only[go_sem];rfl),by simp only[go_sem],Ri,rfl,by simp,U,hi0⟩,?_⟩;clear U Ri hi0;rintro ρ H' ⟨i,l,hk,e10,e11,e12,e5,Ri,htk,hl,U,hi0⟩;simp only[go_sem,e10,e11,e12,e5];refine aA (fun hlt=>?_) (fun hge=>?_)
 ·have hlt:=ltB hlt;obtain⟨p,hp⟩:=cG hlt;have b1:=inB hlt;have hwr:=fM (show l.length≤4611686018427387904 by omega);simp only[go_sem,e10,e11,e12,e5,aM hp,b1];refine Pk p (hsz p (aQ hp)) (fun n hn e=>?_) (fun e=>?_)
  ·subst e;simp only[go_sem,e10,e11,e12,e5];refine aP Ri ⟨rfl,rfl⟩ (by simp only[go_sem]) (by simp only[List.length_map,List.length_cons,List.length_nil];omega) fun j' hj'=>?_
   simp only[go_sem,e10,e11,e12,e5,hwr];refine⟨⟨j',l++[n],by rw[List.length_append,List.length_singleton];exact hlt,by simp,rfl,by rw[aD,List.map_append];rfl,?_,fun m hm=>?_,(U.upd hi0 _).upd (U.none hj') _,U.none hj'⟩,by simp only[aE];omega⟩
   ·rw[List.length_append,List.length_singleton,fL hp,htk,List.map_append];rfl
   ·rcases List.mem_append.1 hm with h|h
    ·exact hl m h
    ·rw[List.mem_singleton.1 h];exact hn
  ·refine h0 (fun l' ⟨q1,q2,q3⟩=>?_) _ U;have:=jF hne (by simpa using q1) hno (oX hc l') (hj.symm.trans q3);rw[this]at hp;obtain⟨n,hn,rfl⟩:=List.mem_map.1 (aQ hp);exact e n (q2 n hn) rfl
 ·have hge:=geB hk hge;rw[hge,List.take_of_length_le (Nat.le_refl _)]at htk;simp only[go_sem,e10,e11,e12,e5];refine⟨_,⟨l,⟨fun e=>?_,hl,by rw[hj,htk]⟩,rfl⟩,U,[i],by simpa using hi0,.row _ _ _ (show(fun k=>if k∈[i]then H' k else none) i=some _ by simp[Ri];rfl) (ConvE.refl _)⟩;rw[e]at htk;exact hne (by simpa using htk)
end
end Go.Proofs.YthbiheckeoknlaaGreatDoor.Sp
end
namespace Go.Proofs.YthbiheckeoknlaaGreatDoor
namespace Sk
open Go.Aw Go.Aw.D Go.Proofs Ty
open Go.Proofs.YthbiheckeoknlaaGreatDoor
open Go.Proofs.YthbiheckeoknlaaGreatDoor.Nw (ltB geB cB)
open Go.Proofs.YthbiheckeoknlaaGreatDoor.Sc
section
variable{H:aC}{b:Nat}{r:List ByteArray}
theorem zP{s:Stop}(h:eK s=true):s=⟨-1,0,0,0⟩:=by obtain⟨p,a,c,d⟩:=s;unfold eK at h;simp at h;simp[h]
theorem Mc(p:Point):∀c∈bs (fQ p),Nx c∨c=58:=by
 intro c hc;rw[fR]at hc;rcases tZ hc with hc|⟨w,hw,hc⟩
 ·exact .inr (by simpa[bs]using hc)
 ·obtain⟨n,_,rfl⟩:=Xat.1 hw;exact .inl (nR n c hc)
theorem Hg{l:List Point}(hl:l≠[]):((eP l).toList == (⟨#[46]⟩:ByteArray).toList)=false:=by
 cases l with
 | nil=>exact absurd rfl hl
 | cons a l=>
  rw[beq_eq_false_iff_ne];intro e;rw[Lib.toList_data,Lib.toList_data]at e;have e:bs (aG ⟨#[44]⟩ (fQ a::l.map fQ))=[46]:=e;rw[aZ,dJ,fR,Xak,aZ,dJ]at e;cases h:bs (aH a.t)with
  | nil=>exact wI a.t h
  | cons c r=>rw[h]at e;simp only[Xav,List.cons.injEq]at e;have:=nR a.t c (by rw[h];simp);exact Hx this e.1
abbrev AL(l:List Point):Row:=⟨157,2,l.map bL⟩
end
end Sk
namespace Sp
open Go.Aw Go.Aw.D Go.Proofs Ty
open Go.Proofs.YthbiheckeoknlaaGreatDoor
open Go.Proofs.YthbiheckeoknlaaGreatDoor.Nw (ltB geB cB)
open Go.Proofs.YthbiheckeoknlaaGreatDoor.Sk
open Go.Proofs.YthbiheckeoknlaaGreatDoor.Sc
open Go.RowKit (Below)
theorem nJ{c:UInt8}(hc:c.toNat<45∨57<c.toNat){l m:List Int}(hl:l≠[])(hm:m≠[])(h:aG ⟨#[c]⟩ (l.map aH)=aG ⟨#[c]⟩ (m.map aH)):l=m:=by have:=jF (by simpa using hl) (by simpa using hm) (oX hc l) (oX hc m) h;exact wF (fun a b h=>pP ((fH a).symm.trans ((congrArg bs h).trans (fH b)))) this
theorem xY{s:ByteArray}(h:(s.toList == (⟨#[46]⟩:ByteArray).toList)=true):s=⟨#[46]⟩:=by have:=eq_of_beq h;rw[Lib.toList_data,Lib.toList_data]at this;exact gD this
theorem qC{s t:ByteArray}(h:(s.toList == t.toList)=false):s≠t:=fun e=>by rw[e,beq_self_eq_true]at h;cases h
section
variable{H:aC}{K:AV→aC→Prop}{Z:aC→Prop}{b:Nat}{l:List ByteArray}
theorem Q9(hb:H b=some (jU l))(hp:∀p∈l,hJ p=true)(hs:∀p∈l,p.size≤1048575)(hl:l.length≤1048577):RX 124 b H (fun(v:List Int) r=>l=iB v::r∧∀n∈v,bH n) (fun v=>.sl (v.map D.aY)):=by
 intro K Z h1 h0;refine cQ.body (c:=Tryz.f124.body.getD .skip) (fun _=>false) mixed Tryz.func124 rfl (by kernel_rfl) ?_;unfold Tryz.f124;simp only[Xai];simp only[go_sem];refine(vP hb hp hl).use (fun w r G ⟨e,_⟩ B F=>?_) (fun G e F=>?_)
 ·subst e;simp only[go_sem];refine aA (fun hd=>?_) (fun hd=>?_)
  ·simp only[go_sem];exact h1 [] r G ⟨by rw[xY hd];rfl,by simp⟩ B F
  simp only[go_sem];refine JZ (by decide) w (hs w (by simp)) (fun v ⟨q1,q2,q3⟩=>?_) (fun e G' U=>?_)
  ·simp only[go_sem];exact h1 v r G ⟨by rw[fA q1,←q3],q2⟩ B F
  ·refine h0 G' (fun v r' ⟨q1,q2⟩=>?_) fun k row hk h=>U _ _ (F k row hk h)
   injection q1 with q1 _;by_cases hv:v=[]
   ·subst hv;exact qC hd q1
   ·exact e v ⟨hv,q2,by rw[q1,fA hv]⟩
 ·exact h0 G (fun v r h=>e _ _ ⟨h.1,uW v⟩) F
theorem Rd(hb:H b=some (jU l))(hp:∀p∈l,hJ p=true)(hs:∀p∈l,p.size≤1048575)(hl:l.length≤1048577):RX 125 b H (fun(v:Stop) r=>l=eQ v::r∧jQ v) (fun v=>.agg (dQ v)):=by
 intro K Z h1 h0;refine cQ.body (c:=Tryz.f125.body.getD .skip) (fun _=>false) mixed Tryz.func125 rfl (by kernel_rfl) ?_;unfold Tryz.f125;simp only[Xai];simp only[go_sem];refine aL fun p G hp0 (P:G p=some ⟨62,4,[dQ ⟨0,0,0,0⟩]⟩) N=>?_
 obtain⟨nb,B⟩:=N hb;have F:Fr b H G:=fun _ _ _ h=>(N h).2
 clear N;simp only[go_sem,P];refine(vP B hp hl).use (fun w r G1 ⟨e,_⟩ B1 F1=>?_) (fun G1 e F1=>?_);rotate_left
 ·exact h0 G1 (fun v r h=>e _ _ ⟨h.1,AF v⟩) (F.trans F1)
 subst e;replace P:=F1 _ _ nb.symm P;replace F:=F.trans F1;simp only[go_sem,P];refine aA (fun hd=>?_) (fun hd=>?_)
 ·simp only[go_sem,P];refine bF P ⟨by simp,rfl,by simp⟩ fun G2 P2 F2=>?_
  simp only[go_sem,P2];exact h1 ⟨-1,0,0,0⟩ r G2 ⟨by rw[xY hd];rfl,by simp[jQ,bH]⟩ (F2 _ _ nb B1) (F.put hp0 F2)
 have key:∀v:Stop,w=eQ v→w=aG ⟨#[58]⟩ ([v.place,v.start,v.close,v.service].map aH):=fun v e=>by
  by_cases hz:eK v=true
  ·rw[show eQ v=⟨#[46]⟩from if_pos hz]at e;exact absurd e (qC hd)
  ·exact e.trans (if_neg hz)
 have four:∀{v:Stop},jQ v→∀n∈[v.place,v.start,v.close,v.service],bH n:=by
  intro v hz n hn;simp only[Xaf,List.not_mem_nil,or_false]at hn;rcases hn with rfl|rfl|rfl|rfl
  ·exact hz.1
  ·exact hz.2.1
  ·exact hz.2.2.1
  ·exact hz.2.2.2
 simp only[go_sem,P];refine JZ (by decide) w (hs w (by simp)) (fun v ⟨q1,q2,q3⟩=>?_) (fun e G' U=>?_);rotate_left
 ·refine h0 G' (fun v r' ⟨q1,q2⟩=>?_) fun k row hk h=>U _ _ (F k row hk h)
  injection q1 with q1 _;exact e _ ⟨by simp,four q2,key v q1⟩
 simp only[go_sem,P];refine aA (fun hn=>?_) (fun hn=>?_)
 ·simp only[go_sem];refine qL (h0 _ (fun v' r' ⟨p1,p2⟩=>?_) F);injection p1 with p1 _;have:=nJ (by decide) q1 (by simp) (q3.symm.trans (key v' p1));subst this;exact absurd hn (by simp)
 have h4:v.length=4:=by
  have:((v.map D.aY).length:Int)=4:=by simpa using hn
  rw[Xab]at this;omega
 match v,h4 with
 | [n0,n1,n2,n3],_=>
 have hz:jQ ⟨n0,n1,n2,n3⟩:=⟨q2 _ (by simp),q2 _ (by simp),q2 _ (by simp),q2 _ (by simp)⟩;simp only[go_sem,P];refine bX [(0,true),(1,true),(2,true),(3,true),(4,true),(5,true),(6,true),(7,true),(8,true),(9,true),(10,true),(11,true),(12,true),(13,false),(14,false)] (by kernel_rfl) ?_;simp only[go_sem,P];refine⟨⟨by omega,by omega⟩,⟨by omega,by omega⟩,⟨by omega,by omega⟩,⟨by omega,by omega⟩,?_⟩;refine aL fun q G2 hq (Q:G2 q=some ⟨62,4,[dQ ⟨0,0,0,0⟩]⟩) N=>?_
 obtain⟨np,P⟩:=N P;obtain⟨nqb,B2⟩:=N B1;have hq0:H q=none:=F.none B1 hq;replace F:=F.new N;clear N;simp only[go_sem,P,Q];refine bF Q ⟨by simp,rfl,by simp⟩ fun G3 Q3 F3=>?_
 replace P:=F3 _ _ np P;have B3:=F3 _ _ nqb B2;replace F:=F.put hq0 F3;simp only[go_sem,P,Q3];refine(PC.use (SS ⟨n0,n1,n2,n3⟩ hz) ?_).x;simp only[go_sem,P,Q3];refine aA (fun hx=>?_) (fun hx=>?_)
 ·simp only[go_sem];refine qL (h0 _ (fun v' r' ⟨p1,p2⟩=>?_) F);injection p1 with p1 _;have:=nJ (by decide) q1 (by simp) (q3.symm.trans (key v' p1));obtain⟨a0,a1,a2,a3⟩:=v';simp only[List.cons.injEq,and_true]at this;obtain⟨rfl,rfl,rfl,rfl⟩:=this;rw[p1]at hx;simp at hx
 ·simp only[go_sem,P,Q3];refine bF P ⟨by simp,rfl,by simp⟩ fun G4 P4 F4=>?_
  simp only[go_sem,P4];refine h1 ⟨n0,n1,n2,n3⟩ r G4 ⟨?_,hz⟩ (F4 _ _ nb B3) (F.put hp0 F4);have:eQ ⟨n0,n1,n2,n3⟩=w:=by
   have:((eQ ⟨n0,n1,n2,n3⟩).toList == w.toList)=true:=by simpa using hx
   have:=eq_of_beq this;rw[Lib.toList_data,Lib.toList_data]at this;exact gD this
  rw[this]
end
end Sp
namespace Nw
open Go.Proofs.Tryz
open Go.Aw Go.Aw.D Go.Proofs Ty
open Go.Proofs.YthbiheckeoknlaaGreatDoor
theorem S7(n:Nat):qT n 1 16=((n:Int) == 0||decide ((n:Int)>16)):=by unfold qT;rw[Xaw];simp only[Xba,decide_eq_true_eq,Xan];omega
theorem Rv(p:Point):gT p=((!inR p.t 0 4096||decide (p.a<p.t))||decide (p.a>IntKind.i64.wrap (p.t+4096))):=by unfold gT inR;rw[Xaw];simp only[Xba,decide_eq_true_eq,Xay,Xbd,decide_eq_false_iff_not];omega
theorem NZ(l:List Point)(hl:l.length≤1048576):PC prog 181 [.sl (l.map bL)] (.sl ((jH l).map cE)):=by
 refine pcb (fun t=>t == 3) func181 rfl rfl ?_;simp only[go_sem];refine cN fun j hj=>?_
 simp only[go_sem];refine bI (fun ρ H=>∃j,ρ 0=.sl (l.map bL)∧ρ 3=.os j∧H j=some (aJ (opt (qT l.length 1 16) ⟨4,ByteArray.empty⟩))) ?_ fun K hK=>aA (fun hb=>?_) (fun hb=>?_)
 ·rintro ρ H ⟨j,h0,h3,hH⟩;simp only[go_sem,h0,h3];generalize hpre:opt (qT l.length 1 16) (⟨4,ByteArray.empty⟩:Fault)=pre at hH;have hpl:pre.length≤1:=by rw[←hpre];exact aU _ _
  refine⟨fun ρ H=>∃k:Nat,k≤l.length∧ρ 0=.sl (l.map bL)∧ρ 19=.sl (l.map bL)∧ρ 20=int l.length∧ρ 21=int k∧∃j,ρ 3=.os j∧H j=some (aJ (pre++(List.range k).flatMap (dX l))),fun ρ _=>l.length-bO (ρ 21),⟨0,Xad _,by simp only[go_sem,h0],by simp only[go_sem,h0],by simp only[go_sem,Xab],by simp only[go_sem];rfl,j,by simp only[go_sem,h3],by simpa using hH⟩,?_⟩;rintro ρ H ⟨k,hk,h0,h19,h20,h21,j,h3,hH⟩;generalize hes:pre++(List.range k).flatMap (dX l)=es at hH;have hlen:es.length≤2*k+1:=by have:=cJ (JS l) (List.range k);rw[←hes,Xac];rw[Xau]at this;omega
  simp only[go_sem,h0,h3,h19,h20,h21];refine aA (fun hlt=>?_) (fun hge=>?_)
  ·have hlt:=bD hlt;obtain⟨p,hp⟩:=cG hlt;have b1:=inB hlt;simp only[go_sem,h0,h3,h19,h20,h21,b1,aM hp];refine cN fun i hi=>?_
   simp only[go_sem];refine fD (r:=⟨157,2,[[int 0,int 0]]⟩) (by rw[aD]) (by simp[kK]) ?_;have hji:j≠i:=bM hH hi;have hH':bG (bG H i (some ⟨157,2,[[int 0,int 0]]⟩)) i (some ⟨157,2,[bL p]⟩) j=some (aJ es):=by rw[aK _ _ _ _ hji,aK _ _ _ _ hji,hH]
   have hi':bG (bG H i (some ⟨157,2,[[int 0,int 0]]⟩)) i (some ⟨157,2,[bL p]⟩) i=some ⟨157,2,[bL p]⟩:=aD _ _ _;simp only[go_sem];refine bB (Pe k (by omega)) ?_;simp only[go_sem,hi'];refine bB (Ph _ _ _) ?_;simp only[go_sem,hi'];refine bI (fun ρ' H'=>∃j',ρ' 0=.sl (l.map bL)∧ρ' 19=.sl (l.map bL)∧ρ' 20=int l.length∧ρ' 21=int k∧ρ' 4=int k∧ρ' 6=str (cO k)∧ρ' 3=.os j'∧ρ' 5=.op i 0 0∧H' i=some ⟨157,2,[bL p]⟩∧j'≠i ∧
    H' j'=some (aJ (es++opt (gT p) ⟨2,cO k⟩))) ?_ fun K hK=>aA (fun hb=>?_) (fun hb=>?_)
   ·rintro ρ H ⟨j,h0,h19,h20,h21,h4,h6,h3,h5,hi,hji,hH⟩;generalize hfs:es++opt (gT p) ⟨2,cO k⟩=fs at hH;have hfl:fs.length≤2*k+2:=by have:=aU (gT p) (⟨2,cO k⟩:Fault);rw[←hfs,Xac];omega
    simp only[go_sem];refine lK (by rfl) (by kernel_rfl) ?_;simp only[go_sem,h0,h3,h4,h5,hi];obtain⟨q,hq⟩:=cG (show k-1<l.length by omega);simp only[go_sem,h0,h3,h4,h5,hi,Eh (show k≤4611686018427387904 by omega),aM hq];have hkk:k≤4611686018427387904:=by omega
    have hg:decide ((k:Int)>0)=true→0≤IntKind.i64.wrap ((k:Int)-1)∧IntKind.i64.wrap ((k:Int)-1)<(l.length:Int):=fun h=>by
     have:(k:Int)>0:=by simpa using h
     rw[lW hkk];omega
    have hpf:pre++(List.range (k+1)).flatMap (dX l)=fs++opt (decide ((k:Int)>0)&&Bl p q) ⟨13,cO k⟩:=by rw[cU,←Xar,hes,←hfs,dX,lT hp,lT hq,Xar]
    refine⟨hg,fun h=>hg h.1,eR (fun ρ' H'=>ρ' 0=.sl (l.map bL)∧ρ' 19=.sl (l.map bL)∧ρ' 20=int l.length∧ρ' 21=int k∧∃j,ρ' 3=.os j∧H' j=some (aJ (pre++(List.range (k+1)).flatMap (dX l)))) ?_ fun K hK _ _=>aA (fun hb=>?_) (fun hb=>?_)⟩
    ·rintro ρ H ⟨h0,h19,h20,h21,j,h3,hH⟩;simp only[go_sem,h0,h3,h19,h20,h21,fM hkk];exact⟨⟨k+1,hlt,rfl,j,rfl,hH⟩,by simp only[aE];omega⟩
    ·simp only[go_sem,h0,h3,h6];refine aP hH ⟨rfl,rfl⟩ (by simp only[go_sem]) (by simp only[Xab,Xaa,List.length_nil];omega) (fun j' hj'=>?_);simp only[go_sem,h0,h3,h4];refine hK _ _ ⟨by simp only[go_sem,h0],by simp only[go_sem,h19],by simp only[go_sem,h20],by simp only[go_sem,h21],j',by simp only[go_sem],?_⟩;rw[hpf,dW (by exact hb)];exact cD (l':=[⟨13,cO k⟩]) rfl
    ·simp only[go_sem];refine hK _ _ ⟨by simp only[go_sem,h0],by simp only[go_sem,h19],by simp only[go_sem,h20],by simp only[go_sem,h21],j,by simp only[go_sem,h3],?_⟩;rw[hpf,dV (by exact hb),Xah,hH]
   ·simp only[go_sem,h0,h3];refine aP hH' ⟨rfl,rfl⟩ (by simp only[go_sem]) (by simp only[Xab,Xaa,List.length_nil];omega) (fun j' hj'=>?_);simp only[go_sem,h0,h3];refine hK _ _ ⟨j',by simp only[go_sem,h0],by simp only[go_sem,h19],by simp only[go_sem,h20],by simp only[go_sem,h21],by simp only[go_sem],by simp only[go_sem],by simp only[go_sem],by simp only[go_sem],cF hi' hji hj',(bM hi' hj').symm,?_⟩;rw[dW ((Rv p).trans hb)];exact cD (l':=[⟨2,cO k⟩]) rfl
   ·simp only[go_sem];refine hK _ _ ⟨j,by simp only[go_sem,h0],by simp only[go_sem,h19],by simp only[go_sem,h20],by simp only[go_sem,h21],by simp only[go_sem],by simp only[go_sem],by simp only[go_sem,h3],by simp only[go_sem],by rw[aD],hji,?_⟩;rw[hH',dV ((Rv p).trans hb),Xah]
  ·have hge:=bK hk hge;subst hge;simp only[go_sem,h3];refine .row _ _ _ (by rw[hH,←hes,←hpre]) ?_;exact ConvE.refl _
 ·simp only[go_sem];refine aP (r:=aJ []) (by simp only[go_sem];rfl) ⟨rfl,rfl⟩ (by simp only[go_sem]) (by simp) (fun j' hj'=>?_);simp only[go_sem];refine hK _ _ ⟨j',rfl,rfl,?_⟩;rw[dW ((S7 _).trans hb)];exact cD (l:=[]) (l':=[⟨4,ByteArray.empty⟩]) rfl
 ·simp only[go_sem];refine hK _ _ ⟨j,rfl,rfl,?_⟩;rw[dV ((S7 _).trans hb),aD];rfl
def AB(l:List Point):List Int:=opt (decide ((l.length:Int)>16)) 4++(List.range l.length).flatMap fun i=>opt (fN l i) 2
theorem RI(l:List Point){k:Nat}{p r:Point}(hp:l[k]?=some p)(hr:l[k-1]?=some r):
  fN l k=((!inR p.t 0 4096||decide ((k:Int)>0)&&decide (p.t≤r.t))|| !inR p.a 0 4096):=by
 rw[fN,lT hp,lT hr];cases !inR p.t 0 4096 <;> cases !inR p.a 0 4096 <;> simp
theorem Sq(l:List Point)(hl:l.length≤1048576):PC prog 182 [.sl (l.map bL)] (.sl ((AB l).map aY)):=by
 refine pcb (fun t=>t == 3) func182 rfl rfl ?_;simp only[go_sem];refine cN fun j hj=>?_
 simp only[go_sem];refine bI (fun ρ H=>∃j,ρ 0=.sl (l.map bL)∧ρ 3=.os j∧H j=some (cT (opt (decide ((l.length:Int)>16)) 4))) ?_ fun K hK=>aA (fun hb=>?_) (fun hb=>?_)
 ·rintro ρ H ⟨j,h0,h3,hH⟩;simp only[go_sem,h0,h3];generalize hpre:opt (decide ((l.length:Int)>16)) (4:Int)=pre at hH;have hpl:pre.length≤1:=by rw[←hpre];exact aU _ _
  refine⟨fun ρ H=>∃k:Nat,k≤l.length∧ρ 0=.sl (l.map bL)∧ρ 12=.sl (l.map bL)∧ρ 13=int l.length∧ρ 14=int k∧∃j,ρ 3=.os j∧H j=some (cT (pre++(List.range k).flatMap fun i=>opt (fN l i) 2)),fun ρ _=>l.length-bO (ρ 14),⟨0,Xad _,by simp only[go_sem,h0],by simp only[go_sem,h0],by simp only[go_sem,Xab],by simp only[go_sem];rfl,j,by simp only[go_sem,h3],by simpa using hH⟩,?_⟩;rintro ρ H ⟨k,hk,h0,h12,h13,h14,j,h3,hH⟩;generalize hes:pre++(List.range k).flatMap (fun i=>opt (fN l i) (2:Int))=es at hH;have hlen:es.length≤k+1:=by have:=cJ (f:=fun x=>opt (fN l x) (2:Int)) (c:=1) (fun x=>aU _ _) (List.range k);rw[←hes,Xac];rw[Xau]at this;omega
  simp only[go_sem,h0,h3,h12,h13,h14];refine aA (fun hlt=>?_) (fun hge=>?_)
  ·have hlt:=bD hlt;obtain⟨p,hp⟩:=cG hlt;obtain⟨r,hr⟩:=cG (show k-1<l.length by omega);have hkk:k≤4611686018427387904:=by omega
   have b1:=inB hlt;simp only[go_sem,h0,h3,h12,h13,h14,b1,aM hp];refine cN fun i hi=>?_
   simp only[go_sem];refine fD (aD _ _ _) (by simp[kK]) ?_;have hji:j≠i:=bM hH hi;generalize hG:bG (bG H i _) i _=G;have hH':G j=some (cT es):=by rw[←hG,aK _ _ _ _ hji,aK _ _ _ _ hji,hH]
   have hi':G i=some ⟨157,2,[bL p]⟩:=by rw[←hG,aD];rfl
   clear hG;simp only[go_sem];refine lK (by rfl) (by kernel_rfl) ?_;simp only[go_sem,h0,h3,hi',Eh hkk,aM hr];refine⟨_,(K4 _).q rfl,?_⟩;simp only[go_sem,h0,h3,hi',Eh hkk,aM hr];have hg:decide ((k:Int)>0)=true→0≤IntKind.i64.wrap ((k:Int)-1)∧IntKind.i64.wrap ((k:Int)-1)<(l.length:Int):=fun h=>by
    have:(k:Int)>0:=by simpa using h
    rw[lW hkk];omega
   refine⟨fun h=>hg h.2,_,fun _=>(K4 _).q rfl,?_⟩;simp only[go_sem,h0,h3,hi',Eh hkk,aM hr];have hfl:pre++(List.range (k+1)).flatMap (fun i=>opt (fN l i) 2)=es++opt (fN l k) 2:=by rw[cU,←Xar,hes]
   refine eR (fun ρ' H'=>ρ' 0=.sl (l.map bL)∧ρ' 12=.sl (l.map bL)∧ρ' 13=int l.length∧ρ' 14=int k∧∃j,ρ' 3=.os j∧H' j=some (cT (es++opt (fN l k) 2))) ?_ fun K hK _ _=>aA (fun hb=>?_) (fun hb=>?_)
   ·clear h0 h12 h13 h14 h3;rintro ρ H ⟨h0,h12,h13,h14,j,h3,hH⟩;simp only[go_sem,h0,h3,h12,h13,h14,fM hkk];exact⟨⟨k+1,hlt,rfl,j,rfl,by rw[hfl];exact hH⟩,by simp only[aE];omega⟩
   ·simp only[go_sem,h0,h3];refine aP hH' ⟨rfl,rfl⟩ (by simp only[go_sem]) (by simp only[Xab,Xaa,List.length_nil];omega) (fun j' hj'=>?_);simp only[go_sem,h0,h3];refine hK _ _ ⟨by simp only[go_sem,h0],by simp only[go_sem,h12],by simp only[go_sem,h13],by simp only[go_sem,h14],j',by simp only[go_sem],?_⟩;rw[dW ((RI l hp hr).trans hb)];exact dL (l':=[2]) rfl
   ·simp only[go_sem];refine hK _ _ ⟨by simp only[go_sem,h0],by simp only[go_sem,h12],by simp only[go_sem,h13],by simp only[go_sem,h14],j,by simp only[go_sem,h3],?_⟩;rw[dV ((RI l hp hr).trans hb),Xah,hH']
  ·have hge:=bK hk hge;subst hge;simp only[go_sem,h3];refine .row _ _ _ (by rw[hH,←hes,←hpre]) ?_;exact ConvE.refl _
 ·simp only[go_sem];refine aP (r:=cT []) (by simp only[go_sem];rfl) ⟨rfl,rfl⟩ (by simp only[go_sem]) (by simp) (fun j' hj'=>?_);simp only[go_sem];refine hK _ _ ⟨j',rfl,rfl,?_⟩;rw[dW hb];exact dL (l:=[]) (l':=[4]) rfl
 ·simp only[go_sem];refine hK _ _ ⟨j,rfl,rfl,?_⟩;rw[dV hb,aD];rfl
end Nw
namespace Nw
open Go.Proofs.Tryz
open Go.Aw Go.Aw.D Go.Proofs Ty
open Go.Proofs.YthbiheckeoknlaaGreatDoor
section
variable{α:Type}(enc:α→AV)(eqv:α→α→Bool)
def EO(a:α):List AV:=[enc a,boo true]
abbrev setRow(ms:List α):Row:=⟨0,2,ms.map (EO enc)⟩
def Co(ms:List α)(a:α):List α:=if ms.any (eqv a)=true then ms else ms++[a]
variable{enc eqv}
theorem CR{P:Program}{kt:TypeId}(a:α)(hk:∀b,jO P kt (enc a) (enc b)=some (eqv a b)):∀(ms:List α) (i:Nat),mN (jO P kt (enc a)) (ms.map (EO enc)) i=some ((ms.findIdx? (eqv a)).map (·+i))
 | [],i=>rfl
 | b::ms,i=>by
  have ih:=CR a hk ms (i+1);have hb:jO P kt (enc a) ((EO enc b).getD 0 .any)=some (eqv a b):=hk b;rw[Xak,mN,hb,List.findIdx?_cons];cases eqv a b with
  | true=>simp
  | false=>
   simp only[Xbj,if_false];rw[ih];cases ms.findIdx? (eqv a)with
   | none=>rfl
   | some j=>simp;omega
theorem A1{P:Program}{kt:TypeId}(a:α)(hk:∀b,jO P kt (enc a) (enc b)=some (eqv a b))(ms:List α):mN (jO P kt (enc a)) (ms.map (EO enc)) 0=some (ms.findIdx? (eqv a)):=by rw[CR a hk];cases ms.findIdx? (eqv a) <;> rfl
theorem Ih(ms:List α)(a:α):BB false (boo false) (ms.map (EO enc)) (ms.findIdx? (eqv a))=boo (ms.any (eqv a)):=by
 unfold BB;induction ms with
 | nil=>rfl
 | cons b ms ih=>
  rw[List.findIdx?_cons,List.any_cons];cases eqv a b with
  | true=>simp[EO]
  | false=>
   cases hi:ms.findIdx? (eqv a)with
   | none=>rw[hi]at ih;simpa using ih
   | some j=>rw[hi]at ih;simp at ih ⊢;exact ih
theorem Gy(he:∀a b,eqv a b=true→enc a=enc b)(ms:List α)(a:α):Np (ms.map (EO enc)) (ms.findIdx? (eqv a)) (enc a) (boo true)=(Co eqv ms a).map (EO enc):=by
 unfold Np Co;cases hi:ms.findIdx? (eqv a)with
 | none=>
  have:ms.any (eqv a)=false:=by rw[List.findIdx?_eq_none_iff]at hi;exact List.any_eq_false.2 fun x hx=>by rw[hi x hx];simp
  simp only[this,Xbj,if_false,Xal,Xak,Xao];rfl
 | some i=>
  obtain⟨hlt,h1,_⟩:=List.findIdx?_eq_some_iff_getElem.1 hi;have:ms.any (eqv a)=true:=List.any_eq_true.2 ⟨_,List.getElem_mem hlt,h1⟩;simp only[this,if_true];apply List.ext_getElem
  ·simp
  ·intro k hk1 hk2;rw[List.getElem_set];split
   ·next e=>subst e;simp only[List.getElem_map,EO,he _ _ h1]
   ·rfl
theorem K0(ht:∀a b c,eqv a b=true→eqv b c=true→eqv a c=true)(ms:List α)(a b:α):(Co eqv ms a).any (eqv b)=(ms.any (eqv b)||eqv b a):=by
 unfold Co;split
 ·next h=>
  obtain⟨c,hc,h1⟩:=List.any_eq_true.1 h;cases hb:eqv b a with
  | false=>simp
  | true=>have:ms.any (eqv b)=true:=List.any_eq_true.2 ⟨c,hc,ht _ _ _ hb h1⟩;simp[this]
 ·simp[List.any_append]
end
def iW(H H':aC):Prop:=∀k r,H k=some r→H' k=some r
theorem iW.refl(H:aC):iW H H:=fun _ _ h=>h
theorem iW.off{H H':aC}(h:iW H H'){i:Nat}(hi:H' i=none):H i=none:=by
 cases e:H i with
 | none=>rfl
 | some r=>rw[h i r e]at hi;cases hi
theorem iW.new{H H':aC}(h:iW H H'){i:Nat}(hi:H' i=none)(a:Option Row):iW H (bG H' i a):=fun k r hk=>by rw[aK _ _ _ _ (bM (h k r hk) hi)];exact h k r hk
theorem iW.set{H H':aC}(h:iW H H'){i:Nat}(hi:H i=none)(a:Option Row):iW H (bG H' i a):=fun k r hk=>by rw[aK _ _ _ _ (bM hk hi)];exact h k r hk
theorem iW.app{H H':aC}(h:iW H H'){i j:Nat}(hi:H i=none)(hj:H' j=none)(a:Option Row):iW H (bG (bG H' i none) j a):=
 (h.set hi none).new (by by_cases e : j = i; · subst e; exact aD _ _ _
                         · rw[aK _ _ _ _ e];exact hj) a
theorem Sy(a b:Arc):jO prog 183 (.agg (vN a)) (.agg (vN b))=some (cW a b):=by unfold jO;simp only[NB];simp[vN,cZ,kA,rW,cW,Bool.and_assoc]
theorem C7(a:Arc):kM prog 183 (.agg (vN a))=true:=by unfold kM;simp only[NB];rw[show xP prog 183=true by kernel_rfl];simp[vN,cZ,kA,rW]
theorem Qq(a b:Arc)(h:cW a b=true):AV.agg (vN a)=AV.agg (vN b):=by unfold cW at h;simp only[Xag,Xan]at h;unfold vN;rw[h.1.1,h.1.2,h.2]
theorem MC(l:List Point):(AB l).length≤l.length+1:=by have h1:=aU (decide ((l.length:Int)>16)) (4:Int);have h2:=cJ (f:=fun x=>opt (fN l x) (2:Int)) (c:=1) (fun x=>aU _ _) (List.range l.length);rw[AB,Xac];rw[Xau]at h2;omega
theorem NN(n:Nat)(a:Arc):jW n a=(!(decide (a.src≥0)&&decide (a.src<(n:Int)))|| !(decide (a.dst≥0)&&decide (a.dst<(n:Int)))):=by unfold jW;rw[Xaw];simp only[Xba,decide_eq_true_eq,Xay,Xbd,decide_eq_false_iff_not];omega
theorem GA(a:Arc):mL a=((((decide (a.profile<0)||decide (a.profile>7))||decide (a.miles<0))||decide (a.miles>10000))||a.src == a.dst):=rfl
abbrev vL(ms:List Arc):Row:=setRow (fun a=>.agg (vN a)) ms
theorem Gg(a:Arc)(ms:List Arc):mN (jO prog 183 (.agg (vN a))) (vL ms).es 0=some (ms.findIdx? (cW a)):=
 A1 (enc:=fun a:Arc=>AV.agg (vN a)) (eqv:=cW) a (fun b=>Sy a b) ms
theorem QK(a:Arc)(ms:List Arc):BB false (boo false) (vL ms).es (ms.findIdx? (cW a))=boo (ms.any (cW a)):=Ih (enc:=fun a:Arc=>AV.agg (vN a)) ms a
def Oy(n:Network)(a:Arc)(known:Bool):List Int:=
 opt (jW n.places.length a) 11++opt (mL a) 2++opt known 6++(jH a.travel).map (fun f=>f.err)++AB a.slow
theorem O7{H0:aC}{K:AV→aC→Prop}(n:Network)(a:Arc)(ms:List Arc){mm:Nat}(R:H0 mm=some (vL ms))(ht:a.travel.length≤1048576)(hs:a.slow.length≤1048576)
  (hK:∀j H',iW H0 H'→H0 j=none→H' j=some (cT (Oy n a (ms.any (cW a))))→K (.os j) H'):
  cK prog 128 [.agg (aN n),.agg (eF a),.om mm] H0 K:=by
 refine cK.body (c:=f128.body.getD .skip) (fun t=>t == 7) mixed func128 rfl (by kernel_rfl) ?_;unfold f128;simp only[Xai];simp only[go_sem];refine cN fun j hj=>?_
 simp only[go_sem];refine bB (Gk _ _) ?_;simp only[go_sem];refine⟨_,fun _=>(Gk _ _).q rfl,?_⟩;simp only[go_sem];have kp0:iW H0 (bG H0 j (some (cT []))):=(iW.refl H0).new hj _;have hH0:bG H0 j (some (cT [])) j=some (cT []):=aD _ _ _;refine bI (fun ρ' H'=>ρ' 2=.om mm∧ρ' 4=.rp (eF a) 0∧iW H0 H'∧∃j',ρ' 7=.os j'∧H0 j'=none∧H' j'=some (cT ([]++opt (jW n.places.length a) 11))) ?_ fun K hK=>aA (fun hb=>?_) (fun hb=>?_)
 rotate_left
 ·simp only[go_sem];refine aP hH0 ⟨rfl,rfl⟩ (by simp only[go_sem]) (by simp) (fun j' hj'=>?_);simp only[go_sem];refine hK _ _ ⟨by simp only[go_sem],by simp only[go_sem],kp0.app hj hj' _,j',by simp only[go_sem],kp0.off hj',?_⟩;rw[dW ((NN _ _).trans hb)];exact dL (l:=[]) (l':=[11]) rfl
 ·simp only[go_sem];refine hK _ _ ⟨by simp only[go_sem],by simp only[go_sem],kp0,j,by simp only[go_sem],hj,?_⟩;rw[dV ((NN _ _).trans hb),Xah];exact hH0
 clear kp0 hH0 hj;rintro ρ H ⟨h2,h4,kp,j,h7,hj,hH⟩;generalize hes1:[]++opt (jW n.places.length a) (11:Int)=es1 at hH;have hl1:es1.length≤1:=by rw[←hes1,Xaz];exact aU _ _
 simp only[go_sem,h2,h4];refine bI (fun ρ' H'=>ρ' 2=.om mm∧ρ' 4=.rp (eF a) 0∧iW H0 H'∧∃j',ρ' 7=.os j'∧H0 j'=none∧H' j'=some (cT (es1++opt (mL a) 2))) ?_ fun K hK=>aA (fun hb=>?_) (fun hb=>?_)
 rotate_left
 ·simp only[go_sem,h7];refine aP hH ⟨rfl,rfl⟩ (by simp only[go_sem]) (by simp only[Xab,Xaa,List.length_nil];omega) (fun j' hj'=>?_);simp only[go_sem];refine hK _ _ ⟨by simp only[go_sem,h2],by simp only[go_sem,h4],kp.app hj hj' _,j',by simp only[go_sem],kp.off hj',?_⟩;rw[dW ((GA _).trans hb)];exact dL (l':=[2]) rfl
 ·simp only[go_sem];refine hK _ _ ⟨by simp only[go_sem,h2],by simp only[go_sem,h4],kp,j,by simp only[go_sem,h7],hj,?_⟩;rw[dV ((GA _).trans hb),Xah,hH]
 clear kp hj hH h2 h4 h7;rintro ρ H ⟨h2,h4,kp,j,h7,hj,hH⟩;generalize hes2:es1++opt (mL a) (2:Int)=es2 at hH;have hl2:es2.length≤2:=by rw[←hes2,Xac];have:=aU (mL a) (2:Int);omega
 simp only[go_sem,h2,h4];refine bB (Lz a) ?_;simp only[go_sem,h2,h4];refine CH (z:=boo false) (kp _ _ R) N1 (C7 a) (Gg a ms) (by kernel_rfl) ?_;rw[QK];simp only[go_sem];refine bI (fun ρ' H'=>ρ' 4=.rp (eF a) 0∧iW H0 H'∧∃j',ρ' 7=.os j'∧H0 j'=none∧H' j'=some (cT (es2++opt (ms.any (cW a)) 6))) ?_ fun K hK=>aA (fun hb=>?_) (fun hb=>?_)
 rotate_left
 ·simp only[go_sem,h7];refine aP hH ⟨rfl,rfl⟩ (by simp only[go_sem]) (by simp only[Xab,Xaa,List.length_nil];omega) (fun j' hj'=>?_);simp only[go_sem];refine hK _ _ ⟨by simp only[go_sem,h4],kp.app hj hj' _,j',by simp only[go_sem],kp.off hj',?_⟩;rw[dW hb];exact dL (l':=[6]) rfl
 ·simp only[go_sem];refine hK _ _ ⟨by simp only[go_sem,h4],kp,j,by simp only[go_sem,h7],hj,?_⟩;rw[dV hb,Xah,hH]
 clear kp hj hH h2 h4 h7;rintro ρ H ⟨h4,kp,j,h7,hj,hH⟩;generalize hes3:es2++opt (ms.any (cW a)) (6:Int)=es3 at hH;have hl3:es3.length≤3:=by rw[←hes3,Xac];have:=aU (ms.any (cW a)) (6:Int);omega
 simp only[go_sem,h4];refine bB (NZ _ ht) ?_;have htl:=sA a.travel;generalize hT:jH a.travel=T at htl;simp only[go_sem,h4,Xab];refine⟨fun ρ H=>∃k:Nat,k≤T.length∧ρ 4=.rp (eF a) 0∧ρ 62=.sl (T.map cE)∧ρ 63=int T.length∧ρ 64=int k∧iW H0 H∧∃j,ρ 7=.os j∧H0 j=none∧H j=some (cT (es3++(T.take k).map fun f=>f.err)),fun ρ _=>T.length-bO (ρ 64),⟨0,Xad _,by simp only[go_sem,h4],by simp only[go_sem],by simp only[go_sem],by simp only[go_sem];rfl,kp,j,by simp only[go_sem,h7],hj,by simpa using hH⟩,?_⟩;clear kp hj hH h4 h7;rintro ρ H ⟨k,hk,h4,h62,h63,h64,kp,j,h7,hj,hH⟩;simp only[go_sem,h4,h62,h63,h64];refine aA (fun hlt=>?_) (fun hge=>?_)
 ·have hlt:=bD hlt;obtain⟨f,hf⟩:=cG hlt;have b1:=inB hlt;simp only[go_sem,h4,h7,h62,h63,h64,b1,aM hf];refine cN fun i hi=>?_
  simp only[go_sem];refine fD (aD _ _ _) (by simp[qG]) ?_;have hji:j≠i:=bM hH hi;have kp1:=(kp.new hi (some ⟨84,2,[cE f]⟩));generalize hG:bG (bG H i _) i _=G;have hH':G j=some (cT (es3++(T.take k).map fun f=>f.err)):=by rw[←hG,aK _ _ _ _ hji,aK _ _ _ _ hji,hH]
  have hi':G i=some ⟨84,2,[cE f]⟩:=by rw[←hG,aD];rfl
  have kpG:iW H0 G:=by rw[←hG];exact(kp.new hi _).set (kp.off hi) _
  clear hG;simp only[go_sem,h4,h7,hi'];refine aP hH' ⟨rfl,rfl⟩ (by simp only[go_sem]) (by simp only[Xab,Xaa,List.length_nil,Xac,Xas];omega) (fun j' hj'=>?_);simp only[go_sem,h4,h62,h63,h64,cH k];refine⟨⟨k+1,hlt,rfl,kpG.app hj hj' _,j',rfl,kpG.off hj',?_⟩,by simp only[aE];omega⟩;rw[show es3++(T.take (k+1)).map (fun f=>f.err)=(es3++(T.take k).map fun f=>f.err)++[f.err]by rw[List.take_add_one,hf];simp];exact dL (l':=[f.err]) rfl
 ·have hge:=bK hk hge;subst hge;rw[Xaj (Xae _)]at hH;simp only[go_sem,h4,h7];refine bB (Sq _ hs) ?_;simp only[go_sem,h4,h7];have hsl:=MC a.slow;refine aP hH ⟨rfl,rfl⟩ (jA (f:=aY) (n:=1) (fun _=>rfl) _) (by simp only[Xab,Xac];omega) (fun j' hj'=>?_);simp only[go_sem];refine hK j' _ (kp.app hj hj' _) (kp.off hj') ?_;rw[show Oy n a (ms.any (cW a))=(es3++T.map fun f=>f.err)++AB a.slow by rw[←hes3,←hes2,←hes1,←hT];rfl];exact dL (l':=AB a.slow) rfl
end Nw
namespace Nw
open Go.Proofs.Tryz
open Go.Aw Go.Aw.D Go.Proofs Ty
open Go.Proofs.YthbiheckeoknlaaGreatDoor
def eqS(a b:ByteArray):Bool:=a.toList == b.toList
theorem Pw(a b:ByteArray):eqS a b=(b.toList == a.toList):=by unfold eqS;rw[Xaw];simp only[Xan];exact eq_comm
theorem SD(a b:ByteArray):jO prog 9 (str a) (str b)=some (eqS a b):=by unfold jO;rw[show mG prog 9=some 1 by kernel_rfl];rfl
theorem DX(a:ByteArray):kM prog 9 (str a)=true:=by show(mG prog 9 == some 1)=true;rw[show mG prog 9=some 1 by kernel_rfl];rfl
abbrev cA(ms:List ByteArray):Row:=setRow (fun a=>str a) ms
theorem GQ(a:ByteArray)(ms:List ByteArray):mN (jO prog 9 (str a)) (cA ms).es 0=some (ms.findIdx? (eqS a)):=
 A1 (enc:=fun a:ByteArray=>str a) (eqv:=eqS) a (fun b=>SD a b) ms
theorem QS(a:ByteArray)(ms:List ByteArray):BB false (boo false) (cA ms).es (ms.findIdx? (eqS a))=boo (ms.any (eqS a)):=Ih (enc:=fun a:ByteArray=>str a) ms a
theorem QM(a:ByteArray)(ms:List ByteArray):Np (cA ms).es (ms.findIdx? (eqS a)) (str a) (boo true)=(cA (Co eqS ms a)).es:=
 Gy (enc:=fun a:ByteArray=>str a) (eqv:=eqS) (fun a b h=>by have:a=b:=tV (by simpa[eqS]using h);rw[this]) ms a
theorem Rk(a b:ByteArray)(ms:List ByteArray):(Co eqS ms a).any (eqS b)=(ms.any (eqS b)||eqS b a):=K0 (fun a b c h1 h2=>by unfold eqS at *;simp only[Xan]at *;exact h1.trans h2) ms a b
theorem Qy(a:Arc)(ms:List Arc):Np (vL ms).es (ms.findIdx? (cW a)) (.agg (vN a)) (boo true)=(vL (Co cW ms a)).es:=
 Gy (enc:=fun a:Arc=>AV.agg (vN a)) (eqv:=cW) Qq ms a
theorem Qu(a b:Arc)(ms:List Arc):(Co cW ms a).any (cW b)=(ms.any (cW b)||cW b a):=K0 (fun a b c h1 h2=>by unfold cW at *;simp only[Xag,Xan]at *;exact⟨⟨h1.1.1.trans h2.1.1,h1.1.2.trans h2.1.2⟩,h1.2.trans h2.2⟩) ms a b
theorem uG{α:Type}{l:List α}{k:Nat}{a:α}(h:l[k]?=some a)(p:α→Bool):(l.take (k+1)).any p=((l.take k).any p||p a):=by rw[List.take_add_one,h];simp[List.any_append]
theorem R8(n:Network)(k:Nat)(ms:List Arc)(h:ms.any (cW (gP n.arcs k))=(n.arcs.take k).any (cW (gP n.arcs k))):
  (Oy n (gP n.arcs k) (ms.any (cW (gP n.arcs k)))).map (fun e=>(⟨e,eV k⟩:Fault))=vD n k:=by
 have ho:∀(b:Bool) (e:Int),(opt b e).map (fun e=>(⟨e,eV k⟩:Fault))=opt b ⟨e,eV k⟩:=fun b e=>by cases b <;> rfl
 unfold Oy vD AB;rw[h];simp only[Xal,ho,List.map_map,List.map_flatMap,Xaz,Xar];rfl
theorem Pd(n:Network)(hp:n.places.length≤1048576)(hps:∀s∈n.places,s.size≤1048576)(hl:n.arcs.length≤1048576)(hs:∀a∈n.arcs,a.travel.length≤1048576∧a.slow.length≤1048576):
  PC prog 71 [.agg (aN n)] (.sl ((yL n).map cE)):=by
 have hal:∀k,(vD n k).length≤3145740:=fun k=>by
  rcases Xbc k n.arcs.length with h|h
  ·obtain⟨a,ha⟩:=cG h;have hm:=hs a (aQ ha);exact sM n k (by rw[jK ha];exact hm.1) (by rw[jK ha];exact hm.2)
  ·have:gP n.arcs k=⟨0,0,0,0,[],[]⟩:=by simp[gP,List.getD,List.getElem?_eq_none h]
   exact sM n k (by rw[this];simp) (by rw[this];simp)
 have hpl:=tE n.places;refine pcb (fun t=>t == 3) func71 rfl rfl ?_;simp only[go_sem];refine cN fun j hj=>?_
 simp only[go_sem];refine bI (fun ρ H=>∃j,ρ 1=.rp (aN n) 0∧ρ 3=.os j∧H j=some (aJ (opt (decide ((n.places.length:Int)>24)) ⟨4,⟨#[112,108,97,99,101,115]⟩⟩))) ?_ fun K hK=>aA (fun hb=>?_) (fun hb=>?_)
 rotate_left
 ·simp only[go_sem];refine aP (r:=aJ []) (by simp only[go_sem];rfl) ⟨rfl,rfl⟩ (by simp only[go_sem]) (by simp) (fun j' hj'=>?_);simp only[go_sem];refine hK _ _ ⟨j',rfl,rfl,?_⟩;rw[dW hb];exact cD (l:=[]) (l':=[⟨4,⟨#[112,108,97,99,101,115]⟩⟩]) rfl
 ·simp only[go_sem];refine hK _ _ ⟨j,rfl,rfl,?_⟩;rw[dV hb,aD];rfl
 rintro ρ H ⟨j,h1,h3,hH⟩;generalize hpre:opt (decide ((n.places.length:Int)>24)) (⟨4,⟨#[112,108,97,99,101,115]⟩⟩:Fault)=pre at hH;have hprl:pre.length≤1:=by rw[←hpre];exact aU _ _
 simp only[go_sem,h1,h3];refine cN fun mm hmm=>?_
 have hjm:j≠mm:=bM hH hmm;simp only[go_sem,h1,h3,Xab];refine⟨fun ρ H=>∃(k:Nat) (ms:List ByteArray),k≤n.places.length∧ρ 1=.rp (aN n) 0∧ρ 4=.om mm∧ρ 23=.sl (n.places.map D.bE)∧ρ 24=int n.places.length∧ρ 25=int k∧H mm=some (cA ms)∧(∀s,ms.any (eqS s)=(n.places.take k).any (eqS s))∧∃j,ρ 3=.os j∧j≠mm∧H j=some (aJ (pre++(List.range k).flatMap (cC n.places))),fun ρ _=>n.places.length-bO (ρ 25),
  ⟨0,[],Xad _,by simp only[go_sem,h1],by simp only[go_sem],by simp only[go_sem],by simp only[go_sem],by simp only[go_sem];rfl,aD _ _ _,by simp,j,by simp only[go_sem,h3],hjm,by rw[aK _ _ _ _ hjm];simpa using hH⟩,?_⟩
 clear hH h1 h3 hjm;rintro ρ H ⟨k,ms,hk,h1,h4,h23,h24,h25,Rm,hms,j,h3,hjm,hH⟩;generalize hes:pre++(List.range k).flatMap (cC n.places)=es at hH;have hlen:es.length≤k+1:=by have:=cJ (Fc n.places) (List.range k);rw[←hes,Xac];rw[Xau]at this;omega
 simp only[go_sem,h1,h3,h4,h23,h24,h25];refine aA (fun hlt=>?_) (fun hge=>?_)
 ·have hlt:=bD hlt;obtain⟨s,hsk⟩:=cG hlt;have b1:=inB hlt;have hsz:=hps s (aQ hsk);simp only[go_sem,h1,h3,h4,h23,h24,h25,b1,aM hsk];refine bB (tP k (by omega)) ?_;simp only[go_sem,h1,h3,h4,h23,h24,h25];have hds:=gG k;refine⟨by show((6+(cO k).size:Nat):Int)≤9223372036854775807;omega,?_⟩;refine bB (oU s hsz) ?_;simp only[go_sem,h1,h3,h4,h23,h24,h25];have hpf:pre++(List.range (k+1)).flatMap (cC n.places)=es++cC n.places k:=by rw[cU,←Xar,hes]
  have hst:zW n.places k=s:=by simp[zW,List.getD,hsk]
  have hkn:ms.any (eqS s)=kC n.places k:=by
   rw[hms];unfold kC;rw[hst]
   congr 1
   funext b;exact Pw s b
  refine eR (fun ρ' H'=>ρ' 1=.rp (aN n) 0∧ρ' 4=.om mm∧ρ' 6=str s∧ρ' 23=.sl (n.places.map D.bE)∧ρ' 24=int n.places.length∧ρ' 25=int k∧H' mm=some (cA ms)∧∃j,ρ' 3=.os j∧j≠mm∧H' j=some (aJ (es++cC n.places k))) ?_ fun K hK _ _=>aA (fun hb=>?_) (fun hb=>?_)
  ·clear h1 h3 h4 h23 h24 h25 Rm hjm hH;rintro ρ H ⟨h1,h4,h6,h23,h24,h25,Rm,j,h3,hjm,hH⟩;simp only[go_sem,h1,h4,h6,h23,h24,h25];refine LM Rm NS (DX s) (GQ s ms) ?_;rw[QM];simp only[go_sem,h1,h3,h4,h6,h23,h24,h25,cH k];refine⟨⟨k+1,Co eqS ms s,hlt,rfl,rfl,fun b=>?_,j,rfl,hjm,?_⟩,by simp only[aE];omega⟩
   ·rw[Rk,hms b,uG hsk]
   ·rw[aK _ _ _ _ hjm,hpf];exact hH
  ·simp only[go_sem,h3];refine aP hH ⟨rfl,rfl⟩ (by simp only[go_sem]) (by simp only[Xab,Xaa,List.length_nil];omega) (fun j' hj'=>?_);simp only[go_sem];refine hK _ _ ⟨by simp only[go_sem,h1],by simp only[go_sem,h4],by simp only[go_sem],by simp only[go_sem,h23],by simp only[go_sem,h24],by simp only[go_sem,h25],cF Rm hjm hj',j',by simp only[go_sem],(bM Rm hj').symm,?_⟩;have hn:dM s=false:=by simpa using hb
   rw[show cC n.places k=[⟨5,kD k⟩]by unfold cC;rw[hst,hn]];exact cD (l':=[⟨5,kD k⟩]) rfl
  ·have hn:dM s=true:=by simpa using hb
   simp only[go_sem,h4];refine CH (z:=boo false) Rm NS (DX s) (GQ s ms) (by kernel_rfl) ?_;rw[QS];simp only[go_sem];refine aA (fun hb=>?_) (fun hb=>?_)
   ·simp only[go_sem,h3];refine aP hH ⟨rfl,rfl⟩ (by simp only[go_sem]) (by simp only[Xab,Xaa,List.length_nil];omega) (fun j' hj'=>?_);simp only[go_sem];refine hK _ _ ⟨by simp only[go_sem,h1],by simp only[go_sem,h4],by simp only[go_sem],by simp only[go_sem,h23],by simp only[go_sem,h24],by simp only[go_sem,h25],cF Rm hjm hj',j',by simp only[go_sem],(bM Rm hj').symm,?_⟩;rw[show cC n.places k=[⟨6,kD k⟩]by unfold cC;rw[hst,hn,←hkn,hb];rfl];exact cD (l':=[⟨6,kD k⟩]) rfl
   ·simp only[go_sem];refine hK _ _ ⟨by simp only[go_sem,h1],by simp only[go_sem,h4],by simp only[go_sem],by simp only[go_sem,h23],by simp only[go_sem,h24],by simp only[go_sem,h25],Rm,j,by simp only[go_sem,h3],hjm,?_⟩;rw[show cC n.places k=[]by unfold cC;rw[hst,hn,←hkn,hb];rfl,Xah];exact hH
 ·have hge:=bK hk hge;subst hge;have hP:lN n.places=es:=by unfold lN;rw[hpre,←hes]
  rw[hP]at hpl;clear hes hlen hms Rm h23 h24 h25 h4;simp only[go_sem,h1,h3];refine bI (fun ρ H=>∃j,ρ 1=.rp (aN n) 0∧ρ 3=.os j∧H j=some (aJ (es++opt (decide ((n.arcs.length:Int)>1024)) ⟨4,⟨#[97,114,99,115]⟩⟩))) ?_ fun K hK=>aA (fun hb=>?_) (fun hb=>?_)
  rotate_left
  ·simp only[go_sem,h3];refine aP hH ⟨rfl,rfl⟩ (by simp only[go_sem]) (by simp only[Xab,Xaa,List.length_nil];omega) (fun j' hj'=>?_);simp only[go_sem];refine hK _ _ ⟨j',by simp only[go_sem,h1],by simp only[go_sem],?_⟩;rw[dW hb];exact cD (l':=[⟨4,⟨#[97,114,99,115]⟩⟩]) rfl
  ·simp only[go_sem];refine hK _ _ ⟨j,by simp only[go_sem,h1],by simp only[go_sem,h3],?_⟩;rw[dV hb,Xah];exact hH
  clear h1 h3 hH hjm;rintro ρ H ⟨j,h1,h3,hH⟩;generalize hes1:es++opt (decide ((n.arcs.length:Int)>1024)) (⟨4,⟨#[97,114,99,115]⟩⟩:Fault)=es1 at hH;have hl1:es1.length≤es.length+1:=by rw[←hes1,Xac];have:=aU (decide ((n.arcs.length:Int)>1024)) (⟨4,⟨#[97,114,99,115]⟩⟩:Fault);omega
  simp only[go_sem,h1,h3];refine cN fun m2 hm2=>?_
  have hjm:j≠m2:=bM hH hm2;simp only[go_sem,h1,h3,Xab];refine⟨fun ρ H=>∃(k:Nat) (ms:List Arc),k≤n.arcs.length∧ρ 1=.rp (aN n) 0∧ρ 8=.om m2∧ρ 64=.sl (n.arcs.map eF)∧ρ 65=int n.arcs.length∧ρ 66=int k∧H m2=some (vL ms)∧(∀a,ms.any (cW a)=(n.arcs.take k).any (cW a))∧∃j,ρ 3=.os j∧j≠m2∧H j=some (aJ (es1++(List.range k).flatMap (vD n))),fun ρ _=>n.arcs.length-bO (ρ 66),
   ⟨0,[],Xad _,by simp only[go_sem,h1],by simp only[go_sem],by simp only[go_sem],by simp only[go_sem],by simp only[go_sem];rfl,aD _ _ _,by simp,j,by simp only[go_sem,h3],hjm,by rw[aK _ _ _ _ hjm];simpa using hH⟩,?_⟩
  clear hH h1 h3 hjm;rintro ρ H ⟨k,ms,hk,h1,h8,h64,h65,h66,Rm,hms,j,h3,hjm,hH⟩;generalize hes:es1++(List.range k).flatMap (vD n)=es2 at hH;have hlen:es2.length≤es1.length+3145740*k:=by have:=cJ hal (List.range k);rw[←hes,Xac];rw[Xau]at this;omega
  simp only[go_sem,h1,h3,h8,h64,h65,h66];refine aA (fun hlt=>?_) (fun hge=>?_)
  ·have hlt:=bD hlt;obtain⟨a,hak⟩:=cG hlt;have b1:=inB hlt;have hsz:=hs a (aQ hak);simp only[go_sem,h1,h3,h8,h64,h65,h66,b1,aM hak];refine cN fun i hi=>?_
   simp only[go_sem];refine fD (aD _ _ _) (by simp[qB]) ?_;generalize hG:bG (bG H i _) i _=G;have kp:iW H G:=by rw[←hG];exact((iW.refl H).new hi _).set hi _
   have Ri:G i=some ⟨107,6,[eF a]⟩:=by rw[←hG,aD];rfl
   have hji:j≠i:=bM hH hi;have hmi:m2≠i:=bM Rm hi;replace hH:=kp _ _ hH;replace Rm:=kp _ _ Rm;clear hG kp hi;simp only[go_sem,h1,h3,h8,h64,h65,h66,Ri];refine O7 n a ms Rm hsz.1 hsz.2 fun p H' kp hp Rp=>?_
   have hjp:j≠p:=fun e=>by subst e;rw[hH]at hp;cases hp
   have hmp:m2≠p:=fun e=>by subst e;rw[Rm]at hp;cases hp
   have hip:i≠p:=fun e=>by subst e;rw[Ri]at hp;cases hp
   replace hH:=kp _ _ hH;replace Rm:=kp _ _ Rm;replace Ri:=kp _ _ Ri;have hat:gP n.arcs k=a:=jK hak;have hR:=R8 n k ms (hms _);have hlR:=hal k;rw[hat]at hR;generalize Oy n a (ms.any (cW a))=er at hR Rp;have hle:er.length≤3145740:=by rw[←hR,Xab]at hlR;exact hlR
   clear kp hp;simp only[go_sem,h1,h3,h8,h64,h65,h66,Rp,Xab];refine⟨fun ρ H=>∃q:Nat,q≤er.length∧ρ 1=.rp (aN n) 0∧ρ 8=.om m2∧ρ 9=int k∧ρ 10=.op i 0 0∧ρ 64=.sl (n.arcs.map eF)∧ρ 65=int n.arcs.length∧ρ 66=int k∧ρ 74=.os p∧ρ 75=int er.length∧ρ 76=int q∧H m2=some (vL ms)∧H i=some ⟨107,6,[eF a]⟩∧H p=some (cT er)∧∃j,ρ 3=.os j∧j≠m2∧j≠i∧j≠p∧H j=some (aJ (es2++(er.take q).map fun e=>⟨e,eV k⟩)),fun ρ _=>er.length-bO (ρ 76),
    ⟨0,Xad _,by simp only[go_sem,h1],by simp only[go_sem,h8],by simp only[go_sem],by simp only[go_sem],by simp only[go_sem,h64],by simp only[go_sem,h65],by simp only[go_sem,h66],by simp only[go_sem],by simp only[go_sem],by simp only[go_sem];rfl,Rm,Ri,Rp,j,by simp only[go_sem,h3],hjm,hji,hjp,by simpa using hH⟩,?_⟩
   clear hH h1 h3 h8 h64 h65 h66 Rm Ri Rp hjm hji hjp;rintro ρ H ⟨q,hq,h1,h8,h9,h10,h64,h65,h66,h74,h75,h76,Rm,Ri,Rp,j,h3,hjm,hji,hjp,hH⟩;simp only[go_sem,h1,h3,h8,h9,h10,h64,h65,h66,h74,h75,h76];refine aA (fun hlq=>?_) (fun hgq=>?_)
   ·have hlq:=bD hlq;obtain⟨e,he⟩:=cG hlq;have b2:=inB hlq;simp only[go_sem,h1,h3,h8,h9,h10,h64,h65,h66,h74,h75,h76,Rp,b2,aM he,Xab];refine⟨hlq,?_⟩;refine bB (tP k (by omega)) ?_;simp only[go_sem,h1,h3,h8,h9,h10,h64,h65,h66,h74,h75,h76];have hds:=gG k;refine⟨by show((4+(cO k).size:Nat):Int)≤9223372036854775807;omega,?_⟩;refine aP hH ⟨rfl,rfl⟩ (by simp only[go_sem]) (by simp only[Xab,Xaa,List.length_nil,Xac,Xas];omega) (fun j' hj'=>?_);simp only[go_sem,h1,h3,h8,h9,h10,h64,h65,h66,h74,h75,h76,cH q];refine⟨⟨q+1,hlq,rfl,cF Rm hjm hj',cF Ri hji hj',cF Rp hjp hj',j',rfl,(bM Rm hj').symm,(bM Ri hj').symm,(bM Rp hj').symm,?_⟩,by simp only[aE];omega⟩;rw[show es2++(er.take (q+1)).map (fun e=>(⟨e,eV k⟩:Fault))=(es2++(er.take q).map fun e=>⟨e,eV k⟩)++[⟨e,eV k⟩]by rw[List.take_add_one,he];simp];exact cD (l':=[⟨e,eV k⟩]) rfl
   ·have hge:=bK hq hgq;subst hge;rw[Xaj (Xae _),hR]at hH;simp only[go_sem,h1,h3,h8,h9,h10,h64,h65,h66,Ri];refine bB (Lz a) ?_;simp only[go_sem,h1,h3,h8,h9,h10,h64,h65,h66];refine LM Rm N1 (C7 a) (Gg a ms) ?_;rw[Qy];simp only[go_sem,h1,h3,h8,h9,h10,h64,h65,h66,cH k];refine⟨⟨k+1,Co cW ms a,hlt,rfl,rfl,fun b=>?_,j,rfl,hjm,?_⟩,by simp only[aE];omega⟩
    ·rw[Qu,hms b,uG hak]
    ·rw[aK _ _ _ _ hjm,cU,←Xar,hes];exact hH
  ·have hge:=bK hk hge;subst hge;simp only[go_sem,h3];refine .row _ _ _ (by rw[hH,←hes,←hes1,←hP]) ?_;exact ConvE.refl _
def yG{α:Type}(p:α→Bool):List α→Int→Int
 | [],_=> -1
 | x::r,n=>if p x=true then n else yG p r (n+1)
theorem Bc{α:Type}{p:α→Bool}{l:List α}{k:Nat}{x:α}(h:∀y∈l.take k,p y=false)(hk:l[k]?=some x)(hx:p x=true):∀n,yG p l n=n+k:=by
 induction l generalizing k with
 | nil=>simp at hk
 | cons a r ih=>
  intro n;cases k with
  | zero=>simp at hk;subst hk;simp only[yG];rw[if_pos hx];simp
  | succ k=>have h0:=h a (by simp);simp only[yG];rw[if_neg (by rw[h0];simp),ih (k:=k) (fun y hy=>h y (by simp[hy])) (by simpa using hk)];omega
theorem xV{α:Type}{p:α→Bool}{l:List α}(h:∀y∈l,p y=false):∀n,yG p l n= -1:=by
 induction l with
 | nil=>intro n;rfl
 | cons a r ih=>intro n;simp only[yG];rw[if_neg (by rw[h a (by simp)];simp)];exact ih (fun y hy=>h y (by simp[hy])) _
theorem wU{α:Type}{p:α→Bool}:∀(l:List α) (n:Int),0≤n→decide (yG p l n≥0)=l.any p
 | [],n,_=>rfl
 | a::r,n,hn=>by
  have ih:=wU (p:=p) r (n+1) (by omega);rw[Xaw]at ih ⊢;simp only[decide_eq_true_eq]at ih ⊢;rw[List.any_cons,Xba,←ih];by_cases h:p a=true
  ·rw[show yG p (a::r) n=n from if_pos h];exact⟨fun _=>.inl h,fun _=>hn⟩
  ·rw[show yG p (a::r) n=yG p r (n+1)from if_neg h];exact⟨fun x=>.inr x,fun x=>x.resolve_left h⟩
theorem SE{g:Nat}{cap:List AV}{p:VType→Bool}(l:List VType)(hl:l.length≤4000000000000000000)(hok:aF prog g=true)(hg:∀v∈l,PC prog g ((.agg (aX v))::cap) (boo (p v))):
  PC prog 242 [.sl (l.map aX),.fn g cap] (int (yG p l 0)):=by
 refine pcd func242 rfl rfl ?_;simp only[go_sem];refine⟨fun ρ _=>∃k:Nat,k≤l.length∧ρ 0=.sl (l.map aX)∧ρ 1=.fn g cap∧ρ 7=int l.length∧ρ 8=int k∧∀u∈l.take k,p u=false,fun ρ _=>l.length-bO (ρ 8),⟨0,Xad _,rfl,rfl,rfl,rfl,by simp⟩,?_⟩;rintro ρ H ⟨k,hk,h0,h1,h7,h8,hz⟩;simp only[go_sem,h0,h1,h7,h8];refine aA (fun hlt=>?_) (fun hge=>?_)
 ·have hlt:=bD hlt;obtain⟨u,hu⟩:=cG hlt;have b1:=inB hlt;simp only[go_sem,h0,h1,h7,h8,aM hu,b1,hok];refine bB (hg u (Xbg hu)) ?_;simp only[go_sem,h0,h1,h7,h8];refine aA (fun hb=>?_) (fun hb=>?_)
  ·simp only[go_sem,h8];exact cI (by rw[Bc hz hu hb];omega)
  ·simp only[go_sem,h0,h1,h7,h8,cH k];exact⟨⟨k+1,hlt,rfl,mZ (p:=fun u=>p u=false) hu hb hz⟩,by simp only[aE];omega⟩
 ·have hge:=bK hk hge;subst hge;rw[List.take_length]at hz;simp only[go_sem];exact cI (by rw[xV hz])
theorem RR{g:Nat}{cap:List AV}{p:VType→Bool}(l:List VType)(hl:l.length≤4000000000000000000)(hok:aF prog g=true)(hg:∀v∈l,PC prog g ((.agg (aX v))::cap) (boo (p v))):
  PC prog 184 [.sl (l.map aX),.fn g cap] (boo (l.any p)):=by
 refine pcd func184 rfl rfl ?_;simp only[go_sem];refine bB (SE l hl hok hg) ?_;simp only[go_sem];exact cB (wU l 0 (Int.le_refl _))
theorem RZ{g:Nat}{cap:List AV}{p:Order→Bool}(l:List Order)(hl:l.length≤4000000000000000000)(hok:aF prog g=true)(hg:∀v∈l,PC prog g ((.agg (aB v))::cap) (boo (p v))):
  PC prog 245 [.sl (l.map aB),.fn g cap] (int (yG p l 0)):=by
 refine pcd func245 rfl rfl ?_;simp only[go_sem];refine⟨fun ρ _=>∃k:Nat,k≤l.length∧ρ 0=.sl (l.map aB)∧ρ 1=.fn g cap∧ρ 7=int l.length∧ρ 8=int k∧∀u∈l.take k,p u=false,fun ρ _=>l.length-bO (ρ 8),⟨0,Xad _,rfl,rfl,rfl,rfl,by simp⟩,?_⟩;rintro ρ H ⟨k,hk,h0,h1,h7,h8,hz⟩;simp only[go_sem,h0,h1,h7,h8];refine aA (fun hlt=>?_) (fun hge=>?_)
 ·have hlt:=bD hlt;obtain⟨u,hu⟩:=cG hlt;have b1:=inB hlt;simp only[go_sem,h0,h1,h7,h8,aM hu,b1,hok];refine bB (hg u (Xbg hu)) ?_;simp only[go_sem,h0,h1,h7,h8];refine aA (fun hb=>?_) (fun hb=>?_)
  ·simp only[go_sem,h8];exact cI (by rw[Bc hz hu hb];omega)
  ·simp only[go_sem,h0,h1,h7,h8,cH k];exact⟨⟨k+1,hlt,rfl,mZ (p:=fun u=>p u=false) hu hb hz⟩,by simp only[aE];omega⟩
 ·have hge:=bK hk hge;subst hge;rw[List.take_length]at hz;simp only[go_sem];exact cI (by rw[xV hz])
theorem Se{g:Nat}{cap:List AV}{p:Order→Bool}(l:List Order)(hl:l.length≤4000000000000000000)(hok:aF prog g=true)(hg:∀v∈l,PC prog g ((.agg (aB v))::cap) (boo (p v))):
  PC prog 188 [.sl (l.map aB),.fn g cap] (boo (l.any p)):=by
 refine pcd func188 rfl rfl ?_;simp only[go_sem];refine bB (RZ l hl hok hg) ?_;simp only[go_sem];exact cB (wU l 0 (Int.le_refl _))
theorem RU{g:Nat}{p:Int→Bool}(l:List Int)(hl:l.length≤4000000000000000000)(hok:aF prog g=true)(hg:∀v∈l,PC prog g [int v] (boo (p v))):
  PC prog 289 [.sl (l.map aY),.v (.func (.func g) #[] #[])] (int (yG p l 0)):=by
 refine pcd func289 rfl rfl ?_;simp only[go_sem];refine⟨fun ρ _=>∃k:Nat,k≤l.length∧ρ 0=.sl (l.map aY)∧ρ 1=.v (.func (.func g) #[] #[])∧ρ 7=int l.length∧ρ 8=int k∧∀u∈l.take k,p u=false,fun ρ _=>l.length-bO (ρ 8),⟨0,Xad _,rfl,rfl,rfl,rfl,by simp⟩,?_⟩;rintro ρ H ⟨k,hk,h0,h1,h7,h8,hz⟩;simp only[go_sem,h0,h1,h7,h8];refine aA (fun hlt=>?_) (fun hge=>?_)
 ·have hlt:=bD hlt;obtain⟨u,hu⟩:=cG hlt;have b1:=inB hlt;simp only[go_sem,h0,h1,h7,h8,aM hu,b1,hok];refine bB (hg u (Xbg hu)) ?_;simp only[go_sem,h0,h1,h7,h8];refine aA (fun hb=>?_) (fun hb=>?_)
  ·simp only[go_sem,h8];exact cI (by rw[Bc hz hu hb];omega)
  ·simp only[go_sem,h0,h1,h7,h8,cH k];exact⟨⟨k+1,hlt,rfl,mZ (p:=fun u=>p u=false) hu hb hz⟩,by simp only[aE];omega⟩
 ·have hge:=bK hk hge;subst hge;rw[List.take_length]at hz;simp only[go_sem];exact cI (by rw[xV hz])
theorem Sm{g:Nat}{p:Int→Bool}(l:List Int)(hl:l.length≤4000000000000000000)(hok:aF prog g=true)(hg:∀v∈l,PC prog g [int v] (boo (p v))):
  PC prog 243 [.sl (l.map aY),.v (.func (.func g) #[] #[])] (boo (l.any p)):=by
 refine pcd func243 rfl rfl ?_;simp only[go_sem];refine bB (RU l hl hok hg) ?_;simp only[go_sem];exact cB (wU l 0 (Int.le_refl _))
theorem Qs(n:Int):PC prog 244 [int n] (boo (!inR n 0 1000)):=by refine pcd func244 rfl rfl ?_;simp only[go_sem];refine bB (fU _ _ _) ?_;simp only[go_sem];exact .refl _
theorem HW(l:List Int)(m:List Int)(hl:l.length≤1048576):PC prog 186 [.sl (l.map aY),.sl (m.map aY)] (boo (nY l m.length)):=by
 refine pcd func186 rfl rfl ?_;simp only[go_sem];refine bB (fU _ _ _) ?_;simp only[go_sem,Xab];refine aA (fun hb=>?_) (fun hb=>?_)
 ·simp only[go_sem];refine cB ?_;unfold nY;rw[if_pos (by simpa using hb)]
 ·simp only[go_sem];refine bB (Sm (p:=fun n=> !inR n 0 1000) l (by omega) (by kernel_rfl) fun v _=>Qs v) ?_;simp only[go_sem];refine cB ?_;unfold nY;rw[if_neg (by simpa using hb),Xaw];simp
abbrev sY(j:Nat):Row:=⟨180,1,[[.os j]]⟩
def RP(H H':aC)(i j:Nat):Prop:=∀k row,k≠i→k≠j→H k=some row→H' k=some row
theorem qO{H0:aC}{K:AV→aC→Prop}{i j:Nat}{es:List Int}(b:Bool)(e:Int)(Ri:H0 i=some (sY j))(Rj:H0 j=some (cT es))(hl:es.length≤1048576)
  (hK:∀r j' H',RP H0 H' i j→(j'=j∨H0 j'=none)→H' i=some (sY j')→H' j'=some (cT (es++opt (!b) e))→K r H'):cK prog 183 [boo b,int e,.op i 0 0] H0 K:=by
 have hij:i≠j:=fun h=>by subst h;rw[Ri]at Rj;cases congrArg (fun o=>o.map (fun r=>r.e)) Rj
 refine cK.body (c:=f183.body.getD .skip) (fun _=>false) mixed func183 rfl (by kernel_rfl) ?_;unfold f183;simp only[Xai];simp only[go_sem];refine aA (fun hb=>?_) (fun hb=>?_)
 ·simp only[go_sem,Ri];refine aP Rj ⟨rfl,rfl⟩ (by simp only[go_sem]) (by simp only[Xab,Xaa,List.length_nil];omega) (fun j' hj'=>?_);simp only[go_sem];have hij':i≠j':=bM Ri hj';refine Ao PR (cF Ri hij.symm hj') ⟨Nat.zero_lt_one,rfl,Xae _⟩ ?_;simp only[go_sem];refine hK _ j' _ (fun k row h1 h2 hk=>?_) (.inr hj') (aD _ _ _) ?_
  ·rw[aK _ _ _ _ h1,aK _ _ _ _ (bM hk hj'),aK _ _ _ _ h2];exact hk
  ·rw[aK _ _ _ _ hij'.symm,dW hb];exact dL (l':=[e]) rfl
 ·simp only[go_sem];refine hK _ j H0 (fun _ _ _ _ h=>h) (.inl rfl) Ri ?_;rw[dV hb,Xah];exact Rj
theorem uC{H:aC}{i8 j j':Nat}{r:Row}(d:j'=j∨H j'=none)(h:i8≠j)(R:H i8=some r):i8≠j':=by
 rcases d with rfl|d
 ·exact h
 ·exact bM R d
theorem Hu(t u:VType):PC prog 185 [.agg (aX u),.rp (aX t) 0] (boo (u.name.toList == t.name.toList)):=by refine pcd func185 rfl rfl ?_;simp only[go_sem];exact .refl _
theorem MF(n:Network)(l:List VType)(k:Nat)(t:VType)(ht:l[k]?=some t)(hl:l.length≤1048576)(hs:∀t∈l,t.name.size≤1048576∧t.cap.length≤1048576)(hp:n.places.length≤1048576):
  NC prog 131 [.agg (aN n),.sl (l.map aX),int k] (cT (fW n l k t)) .os:=by
 have hk:k<l.length:=(List.getElem?_eq_some_iff.1 ht).1;have b1:=inB hk;have hst:=hs t (aQ ht);refine ncb (fun t=>t == 7) func131 rfl rfl ?_;simp only[go_sem];refine cN fun j hj=>?_
 refine cN fun i hi=>?_
 have hij:i≠j:=(bM (aD _ _ _) hi).symm;generalize hG:bG (bG bV j _) i _=G;have Ri:G i=some (sY j):=by rw[←hG,aD]
 have Rj:G j=some (cT []):=by rw[←hG,aK _ _ _ _ hij.symm,aD];rfl
 clear hG hi hj hij;simp only[go_sem,b1,aM ht];refine cN fun i8 h8=>?_
 simp only[go_sem];refine fD (aD _ _ _) (by simp[rG]) ?_;have h8i:i8≠i:=(bM Ri h8).symm;have h80:i8≠j:=(bM Rj h8).symm;generalize hG:bG (bG G i8 _) i8 _=G1;have Ri0:G1 i=some (sY j):=by rw[←hG,aK _ _ _ _ h8i.symm,aK _ _ _ _ h8i.symm];exact Ri
 have Rj0:G1 j=some (cT []):=by rw[←hG,aK _ _ _ _ h80.symm,aK _ _ _ _ h80.symm];exact Rj
 have R80:G1 i8=some (kJ t):=by rw[←hG,aD];rfl
 clear hG h8 Ri Rj;have hpn:=lW (show n.places.length≤4611686018427387904 by omega);simp only[go_sem,R80,Xab,hpn];refine bB (oU _ hst.1) ?_;simp only[go_sem,R80];refine qO _ _ Ri0 Rj0 (by first|omega|simp) fun _ j1 H1 s1 d1 Ri1 Rj1=>?_
 have R81:=s1 _ _ h8i h80 R80;have h81:i8≠j1:=uC d1 h80 R80;clear Ri0 Rj0 R80 h80 s1 d1;have hl1:=aU (!dM t.name) (5:Int);generalize hes1:([]:List Int)++opt (!dM t.name) (5:Int)=es1 at Rj1;replace hl1:es1.length≤1:=by rw[←hes1,Xac];simp only[List.length_nil];omega
 simp only[go_sem,R81,hpn,b1];rw[←List.map_take];refine⟨by omega,?_⟩;refine pH.use ⟨[.sl ((l.take k).map aX),.fn 185 [.rp (aX t) 0]],.cons _ _ _ _ (.refl _) (.cons _ _ _ _ (.fn _ _ _ (.cons _ _ _ _ (.ptr i8 0 0 _ _ R81 (by simp) (ConvL.refl _)) .nil)) .nil),RR (p:=fun u=>u.name.toList == t.name.toList) (l.take k) (by rw[Xas];omega) (by kernel_rfl) (fun u _=>Hu t u),rfl⟩ ?_;simp only[go_sem,R81];refine qO _ _ Ri1 Rj1 (by first|omega|simp) fun _ j2 H2 s2 d2 Ri2 Rj2=>?_
 have R82:=s2 _ _ h8i h81 R81;have h82:i8≠j2:=uC d2 h81 R81;clear Ri1 Rj1 R81 h81 s2 d2;have hl2:=aU (!!(l.take k).any fun u=>u.name.toList == t.name.toList) (6:Int);generalize hes2:es1++opt (!!(l.take k).any fun u=>u.name.toList == t.name.toList) (6:Int)=es2 at Rj2;replace hl2:es2.length≤2:=by rw[←hes2,Xac];omega
 simp only[go_sem,R82,hpn,b1];refine bB (fU _ _ _) ?_;simp only[go_sem,R82,hpn,b1];refine qO _ _ Ri2 Rj2 (by first|omega|simp) fun _ j3 H3 s3 d3 Ri3 Rj3=>?_
 have R83:=s3 _ _ h8i h82 R82;have h83:i8≠j3:=uC d3 h82 R82;clear Ri2 Rj2 R82 h82 s3 d3;have hl3:=aU (!inR t.count 0 10) (22:Int);generalize hes3:es2++opt (!inR t.count 0 10) (22:Int)=es3 at Rj3;replace hl3:es3.length≤3:=by rw[←hes3,Xac];omega
 simp only[go_sem,R83,hpn,b1];refine bB (fU _ _ _) ?_;simp only[go_sem,R83,hpn,b1];refine⟨_,fun _=>(fU _ _ _).q rfl,?_⟩;simp only[go_sem,R83,hpn,b1];refine qO _ _ Ri3 Rj3 (by first|omega|simp) fun _ j4 H4 s4 d4 Ri4 Rj4=>?_
 have R84:=s4 _ _ h8i h83 R83;have h84:i8≠j4:=uC d4 h83 R83;clear Ri3 Rj3 R83 h83 s4 d4;have hl4:=aU (!(inR t.src 0 (n.places.length-1)&&inR t.dst 0 (n.places.length-1))) (11:Int);generalize hes4:es3++opt (!(inR t.src 0 (n.places.length-1)&&inR t.dst 0 (n.places.length-1))) (11:Int)=es4 at Rj4;replace hl4:es4.length≤4:=by rw[←hes4,Xac];omega
 simp only[go_sem,R84,hpn,b1];obtain⟨t0,ht0⟩:=cG (show 0<l.length by omega);have b0:=inB (show 0<l.length by omega);refine rM [i8] [(0,true),(1,true),(2,true),(3,true),(4,true),(5,true),(6,true),(7,true),(8,false)] (by simp[R84]) (by kernel_rfl) fun Hp Hr hp hr _ hr0=>?_
 have P_R84:=(hp i8 (by simp)).trans R84;have Q_Ri4:=(hr i (by simp[h8i.symm])).trans Ri4;have Q_Rj4:=(hr j4 (by simp[h84.symm])).trans Rj4;simp only[go_sem,hpn,b0,aM ht0,P_R84,Q_Ri4,Q_Rj4];refine⟨⟨Int.le_refl _,by omega⟩,_,(HW t.cap t0.cap hst.2).q rfl,?_⟩;simp only[go_sem];refine qO _ _ Q_Ri4 Q_Rj4 (by omega) fun _ j5 H5 s5 d5 Ri5 Rj5=>?_
 simp only[go_sem];refine cV fun h0 Hm hm1 hm2=>?_
 have h85:i8≠j5:=fun e=>by have:=h0 i8 (by simp);rw[e,Rj5]at this;cases this
 replace Ri5:=(hm2 i (by simp[h8i.symm])).trans Ri5;replace Rj5:=(hm2 j5 (by simp[h85.symm])).trans Rj5;have R85:=(hm1 i8 (by simp)).trans R84;clear hp hr hr0 hm1 hm2 h0 s5 d5 P_R84 Q_Ri4 Q_Rj4 Ri4 Rj4 R84 h84;have hcap:nY t.cap (t0.cap.length:Int)=nY t.cap (hY l):=by
  have:hY l=(t0.cap.length:Int):=by
   cases l with
   | nil=>cases ht0
   | cons u r=>simp at ht0;subst ht0;rfl
  rw[this]
 rw[hcap]at Rj5;have hl5:=aU (!nY t.cap (hY l)) (17:Int);generalize hes5:es4++opt (!nY t.cap (hY l)) (17:Int)=es5 at Rj5;replace hl5:es5.length≤5:=by rw[←hes5,Xac];omega
 simp only[go_sem,R85,hpn,b1];refine bB (fU _ _ _) ?_;simp only[go_sem,R85,hpn,b1];refine qO _ _ Ri5 Rj5 (by first|omega|simp) fun _ j6 H6 s6 d6 Ri6 Rj6=>?_
 have R86:=s6 _ _ h8i h85 R85;have h86:i8≠j6:=uC d6 h85 R85;clear Ri5 Rj5 R85 h85 s6 d6;have hl6:=aU (!inR t.skills 0 1073741823) (18:Int);generalize hes6:es5++opt (!inR t.skills 0 1073741823) (18:Int)=es6 at Rj6;replace hl6:es6.length≤6:=by rw[←hes6,Xac];omega
 simp only[go_sem,R86,hpn,b1];refine bB (fU _ _ _) ?_;simp only[go_sem,R86,hpn,b1];refine qO _ _ Ri6 Rj6 (by first|omega|simp) fun _ j7 H7 s7 d7 Ri7 Rj7=>?_
 have R87:=s7 _ _ h8i h86 R86;have h87:i8≠j7:=uC d7 h86 R86;clear Ri6 Rj6 R86 h86 s7 d7;have hl7:=aU (!(inR t.start 0 t.close&&decide (t.close≤4096))) (15:Int);generalize hes7:es6++opt (!(inR t.start 0 t.close&&decide (t.close≤4096))) (15:Int)=es7 at Rj7;replace hl7:es7.length≤7:=by rw[←hes7,Xac];omega
 simp only[go_sem,R87,hpn,b1];refine bB (fU _ _ _) ?_;simp only[go_sem,R87,hpn,b1];refine⟨_,fun _=>(fU _ _ _).q rfl,?_⟩;simp only[go_sem,R87,hpn,b1];refine qO _ _ Ri7 Rj7 (by first|omega|simp) fun _ j8 H8 s8 d8 Ri8 Rj8=>?_
 have R88:=s8 _ _ h8i h87 R87;have h88:i8≠j8:=uC d8 h87 R87;clear Ri7 Rj7 R87 h87 s8 d8;have hl8:=aU (!(inR t.drive 1 4096&&inR t.rest 0 4096)) (16:Int);generalize hes8:es7++opt (!(inR t.drive 1 4096&&inR t.rest 0 4096)) (16:Int)=es8 at Rj8;replace hl8:es8.length≤8:=by rw[←hes8,Xac];omega
 simp only[go_sem,R88,hpn,b1];refine bB (fU _ _ _) ?_;simp only[go_sem,R88,hpn,b1];refine⟨_,fun _=>(fU _ _ _).q rfl,?_⟩;simp only[go_sem,R88,hpn,b1];refine⟨_,fun _=>(fU _ _ _).q rfl,?_⟩;simp only[go_sem,R88,hpn,b1];refine⟨_,fun _=>(fU _ _ _).q rfl,?_⟩;simp only[go_sem,R88,hpn,b1];refine qO _ _ Ri8 Rj8 (by first|omega|simp) fun _ j9 H9 s9 d9 Ri9 Rj9=>?_
 have R89:=s9 _ _ h8i h88 R88;have h89:i8≠j9:=uC d9 h88 R88;clear Ri8 Rj8 R88 h88 s9 d9;have hl9:=aU (!(((inR t.profile 0 7&&inR t.fixed 0 100000)&&inR t.perMile 0 100)&&inR t.perTick 0 100)) (2:Int);generalize hes9:es8++opt (!(((inR t.profile 0 7&&inR t.fixed 0 100000)&&inR t.perMile 0 100)&&inR t.perTick 0 100)) (2:Int)=es9 at Rj9;replace hl9:es9.length≤9:=by rw[←hes9,Xac];omega
 simp only[go_sem,R89,hpn,b1];simp only[go_sem,Ri9];refine⟨_,rfl,?_⟩;rw[Rj9,←hes9,←hes8,←hes7,←hes6,←hes5,←hes4,←hes3,←hes2,←hes1];have e15:(!(inR t.start 0 t.close&&decide (t.close≤4096)))=(!inR t.start 0 t.close||decide (t.close>4096)):=by
  rw[Bool.not_and]
  congr 1
  rw[Xaw];simp only[Xay,decide_eq_false_iff_not,decide_eq_true_eq];omega
 unfold fW mI;simp only[e15,Bool.not_not,Bool.not_and]
theorem jI(n:Network)(l:List VType)(k:Nat)(t:VType):(fW n l k t).length≤9:=by have h1:=aU (!dM t.name) (5:Int);have h2:=aU (mI l k t.name) (6:Int);have h3:=aU (!inR t.count 0 10) (22:Int);have h4:=aU (!inR t.src 0 (n.places.length-1)|| !inR t.dst 0 (n.places.length-1)) (11:Int);have h5:=aU (!nY t.cap (hY l)) (17:Int);have h6:=aU (!inR t.skills 0 1073741823) (18:Int);have h7:=aU (!inR t.start 0 t.close||decide (t.close>4096)) (15:Int);have h8:=aU (!inR t.drive 1 4096|| !inR t.rest 0 4096) (16:Int);have h9:=aU (!inR t.profile 0 7|| !inR t.fixed 0 100000|| !inR t.perMile 0 100|| !inR t.perTick 0 100) (2:Int);unfold fW;simp only[Xac,List.length_nil];omega
theorem PN(n:Network)(l:List VType)(hl:l.length≤1048576)(hs:∀t∈l,t.name.size≤1048576∧t.cap.length≤1048576)(hp:n.places.length≤1048576):
  PC prog 72 [.agg (aN n),.sl (l.map aX)] (.sl ((lE n l).map cE)):=by
 refine pcb (fun t=>t == 5) func72 rfl rfl ?_;simp only[go_sem];refine cN fun j hj=>?_
 simp only[go_sem];refine bB (fU _ _ _) ?_;simp only[go_sem,Xab];refine bI (fun ρ H=>∃j,ρ 1=.sl (l.map aX)∧ρ 2=.rp (aN n) 0∧ρ 5=.os j∧H j=some (aJ (opt (!inR l.length 1 6) ⟨4,ByteArray.empty⟩))) ?_ fun K hK=>aA (fun hb=>?_) (fun hb=>?_)
 rotate_left
 ·simp only[go_sem];refine aP (r:=aJ []) (by simp only[go_sem];rfl) ⟨rfl,rfl⟩ (by simp only[go_sem]) (by simp) (fun j' hj'=>?_);simp only[go_sem];refine hK _ _ ⟨j',rfl,rfl,rfl,?_⟩;rw[dW hb];exact cD (l:=[]) (l':=[⟨4,ByteArray.empty⟩]) rfl
 ·simp only[go_sem];refine hK _ _ ⟨j,rfl,rfl,rfl,?_⟩;rw[dV hb,aD];rfl
 rintro ρ H ⟨j,h1,h2,h5,hH⟩;generalize hpre:opt (!inR l.length 1 6) (⟨4,ByteArray.empty⟩:Fault)=pre at hH;have hprl:pre.length≤1:=by rw[←hpre];exact aU _ _
 simp only[go_sem,h1,h2,h5,Xab];refine⟨fun ρ H=>∃k:Nat,k≤l.length∧ρ 1=.sl (l.map aX)∧ρ 2=.rp (aN n) 0∧ρ 18=int l.length∧ρ 19=int k∧∃j,ρ 5=.os j∧H j=some (aJ (pre++(List.range k).flatMap (eE n l))),fun ρ _=>l.length-bO (ρ 19),
  ⟨0,Xad _,by simp only[go_sem,h1],by simp only[go_sem,h2],by simp only[go_sem],by simp only[go_sem];rfl,j,by simp only[go_sem,h5],by simpa using hH⟩,?_⟩
 clear hH h1 h2 h5;rintro ρ H ⟨k,hk,h1,h2,h18,h19,j,h5,hH⟩;generalize hes:pre++(List.range k).flatMap (eE n l)=es at hH;have hlen:es.length≤9*k+1:=by have:=cJ (f:=eE n l) (c:=9) (fun x=>by unfold eE;rw[Xab];exact jI _ _ _ _) (List.range k);rw[←hes,Xac];rw[Xau]at this;omega
 simp only[go_sem,h1,h2,h5,h18,h19];refine aA (fun hlt=>?_) (fun hge=>?_)
 ·have hlt:=bD hlt;obtain⟨t,ht⟩:=cG hlt;simp only[go_sem,h1,h2,h5,h18,h19];refine NC.use (MF n l k t ht hl hs hp) fun p hp=>?_
  have hjp:j≠p:=bM hH hp;generalize hG:bG H p _=G;have Rp:G p=some (cT (fW n l k t)):=by rw[←hG,aD]
  have hH':G j=some (aJ es):=by rw[←hG,aK _ _ _ _ hjp];exact hH
  clear hG hH hp;have hel:=jI n l k t;have hR:(fW n l k t).map (fun e=>(⟨e,cO k⟩:Fault))=eE n l k:=by unfold eE;rw[F7 ht]
  generalize fW n l k t=er at hel hR Rp;simp only[go_sem,h1,h2,h5,h18,h19,Rp,Xab];refine⟨fun ρ H=>∃q:Nat,q≤er.length∧ρ 1=.sl (l.map aX)∧ρ 2=.rp (aN n) 0∧ρ 6=int k∧ρ 18=int l.length∧ρ 19=int k∧ρ 25=.os p∧ρ 26=int er.length∧ρ 27=int q∧H p=some (cT er)∧∃j,ρ 5=.os j∧j≠p∧H j=some (aJ (es++(er.take q).map fun e=>⟨e,cO k⟩)),fun ρ _=>er.length-bO (ρ 27),
   ⟨0,Xad _,by simp only[go_sem,h1],by simp only[go_sem,h2],by simp only[go_sem],by simp only[go_sem,h18],by simp only[go_sem,h19],by simp only[go_sem],by simp only[go_sem],by simp only[go_sem];rfl,Rp,j,by simp only[go_sem,h5],hjp,by simpa using hH'⟩,?_⟩
  clear hH' h1 h2 h5 h18 h19 Rp hjp;rintro ρ H ⟨q,hq,h1,h2,h6,h18,h19,h25,h26,h27,Rp,j,h5,hjp,hH⟩;simp only[go_sem,h1,h2,h5,h6,h18,h19,h25,h26,h27];refine aA (fun hlq=>?_) (fun hgq=>?_)
  ·have hlq:=bD hlq;obtain⟨e,he⟩:=cG hlq;have b2:=inB hlq;simp only[go_sem,h1,h2,h5,h6,h18,h19,h25,h26,h27,Rp,b2,aM he,Xab];refine⟨hlq,?_⟩;refine bB (tP k (by omega)) ?_;simp only[go_sem,h1,h2,h5,h6,h18,h19,h25,h26,h27];refine aP hH ⟨rfl,rfl⟩ (by simp only[go_sem]) (by simp only[Xab,Xaa,List.length_nil,Xac,Xas];omega) (fun j' hj'=>?_);simp only[go_sem,h1,h2,h5,h6,h18,h19,h25,h26,h27,cH q];refine⟨⟨q+1,hlq,rfl,cF Rp hjp hj',j',rfl,(bM Rp hj').symm,?_⟩,by simp only[aE];omega⟩;rw[show es++(er.take (q+1)).map (fun e=>(⟨e,cO k⟩:Fault))=(es++(er.take q).map fun e=>⟨e,cO k⟩)++[⟨e,cO k⟩]by rw[List.take_add_one,he];simp];exact cD (l':=[⟨e,cO k⟩]) rfl
  ·have hge:=bK hq hgq;subst hge;rw[Xaj (Xae _),hR]at hH;simp only[go_sem,h1,h2,h5,h18,h19,cH k];refine⟨⟨k+1,hlt,rfl,j,rfl,?_⟩,by simp only[aE];omega⟩;rw[cU,←Xar,hes];exact hH
 ·have hge:=bK hk hge;subst hge;simp only[go_sem,h5];refine .row _ _ _ (by rw[hH,←hes,←hpre]) ?_;exact ConvE.refl _
theorem sI{H0:aC}{K:AV→aC→Prop}{i j:Nat}{es:List Int}(b:Bool)(e:Int)(Ri:H0 i=some (sY j))(Rj:H0 j=some (cT es))(hl:es.length≤1048576)
  (hK:∀r j' H',RP H0 H' i j→(j'=j∨H0 j'=none)→H' i=some (sY j')→H' j'=some (cT (es++opt (!b) e))→K r H'):cK prog 187 [boo b,int e,.op i 0 0] H0 K:=by
 have hij:i≠j:=fun h=>by subst h;rw[Ri]at Rj;cases congrArg (fun o=>o.map (fun r=>r.e)) Rj
 refine cK.body (c:=f187.body.getD .skip) (fun _=>false) mixed func187 rfl (by kernel_rfl) ?_;unfold f187;simp only[Xai];simp only[go_sem];refine aA (fun hb=>?_) (fun hb=>?_)
 ·simp only[go_sem,Ri];refine aP Rj ⟨rfl,rfl⟩ (by simp only[go_sem]) (by simp only[Xab,Xaa,List.length_nil];omega) (fun j' hj'=>?_);simp only[go_sem];have hij':i≠j':=bM Ri hj';refine Ao PR (cF Ri hij.symm hj') ⟨Nat.zero_lt_one,rfl,Xae _⟩ ?_;simp only[go_sem];refine hK _ j' _ (fun k row h1 h2 hk=>?_) (.inr hj') (aD _ _ _) ?_
  ·rw[aK _ _ _ _ h1,aK _ _ _ _ (bM hk hj'),aK _ _ _ _ h2];exact hk
  ·rw[aK _ _ _ _ hij'.symm,dW hb];exact dL (l':=[e]) rfl
 ·simp only[go_sem];refine hK _ j H0 (fun _ _ _ _ h=>h) (.inl rfl) Ri ?_;rw[dV hb,Xah];exact Rj
theorem Qn(t u:Order):PC prog 189 [.agg (aB u),.rp (aB t) 0] (boo (u.name.toList == t.name.toList)):=by refine pcd func189 rfl rfl ?_;simp only[go_sem];exact .refl _
theorem Nj(n:Network)(d T:Int)(l:List Order)(k:Nat)(t:Order)(ht:l[k]?=some t)(hl:l.length≤1048576)(hs:∀t∈l,t.name.size≤1048576∧t.load.length≤1048576)(hp:n.places.length≤1048576):
  NC prog 132 [.agg (aN n),int d,int T,.sl (l.map aB),int k] (cT (fE n.places.length d T l k t)) .os:=by
 have hk:k<l.length:=(List.getElem?_eq_some_iff.1 ht).1;have b1:=inB hk;have hst:=hs t (aQ ht);refine ncb (fun t=>t == 11) func132 rfl rfl ?_;simp only[go_sem];refine cN fun j hj=>?_
 refine cN fun i hi=>?_
 have hij:i≠j:=(bM (aD _ _ _) hi).symm;generalize hG:bG (bG bV j _) i _=G;have Ri:G i=some (sY j):=by rw[←hG,aD]
 have Rj:G j=some (cT []):=by rw[←hG,aK _ _ _ _ hij.symm,aD];rfl
 clear hG hi hj hij;simp only[go_sem,b1,aM ht];refine cN fun i8 h8=>?_
 simp only[go_sem];refine fD (aD _ _ _) (by simp[pZ]) ?_;have h8i:i8≠i:=(bM Ri h8).symm;have h80:i8≠j:=(bM Rj h8).symm;generalize hG:bG (bG G i8 _) i8 _=G1;have Ri0:G1 i=some (sY j):=by rw[←hG,aK _ _ _ _ h8i.symm,aK _ _ _ _ h8i.symm];exact Ri
 have Rj0:G1 j=some (cT []):=by rw[←hG,aK _ _ _ _ h80.symm,aK _ _ _ _ h80.symm];exact Rj
 have R80:G1 i8=some (jT t):=by rw[←hG,aD];rfl
 clear hG h8 Ri Rj;have hpn:=lW (show n.places.length≤4611686018427387904 by omega);simp only[go_sem,R80,Xab,hpn];refine bB (oU _ hst.1) ?_;simp only[go_sem,R80];refine sI _ _ Ri0 Rj0 (by first|omega|simp) fun _ j1 H1 s1 d1 Ri1 Rj1=>?_
 have R81:=s1 _ _ h8i h80 R80;have h81:i8≠j1:=uC d1 h80 R80;clear Ri0 Rj0 R80 h80 s1 d1;have hl1:=aU (!dM t.name) (5:Int);generalize hes1:([]:List Int)++opt (!dM t.name) (5:Int)=es1 at Rj1;replace hl1:es1.length≤1:=by rw[←hes1,Xac];simp only[List.length_nil];omega
 simp only[go_sem,R81,hpn,b1];rw[←List.map_take];refine⟨by omega,?_⟩;refine pH.use ⟨[.sl ((l.take k).map aB),.fn 189 [.rp (aB t) 0]],.cons _ _ _ _ (.refl _) (.cons _ _ _ _ (.fn _ _ _ (.cons _ _ _ _ (.ptr i8 0 0 _ _ R81 (by simp) (ConvL.refl _)) .nil)) .nil),Se (p:=fun u=>u.name.toList == t.name.toList) (l.take k) (by rw[Xas];omega) (by kernel_rfl) (fun u _=>Qn t u),rfl⟩ ?_;simp only[go_sem,R81];refine sI _ _ Ri1 Rj1 (by first|omega|simp) fun _ j2 H2 s2 d2 Ri2 Rj2=>?_
 have R82:=s2 _ _ h8i h81 R81;have h82:i8≠j2:=uC d2 h81 R81;clear Ri1 Rj1 R81 h81 s2 d2;have hl2:=aU (!!(l.take k).any fun u=>u.name.toList == t.name.toList) (6:Int);generalize hes2:es1++opt (!!(l.take k).any fun u=>u.name.toList == t.name.toList) (6:Int)=es2 at Rj2;replace hl2:es2.length≤2:=by rw[←hes2,Xac];omega
 simp only[go_sem,R82,hpn,b1];refine bB (N3 _ _ hst.2) ?_;simp only[go_sem,R82,hpn,b1];refine sI _ _ Ri2 Rj2 (by first|omega|simp) fun _ j3 H3 s3 d3 Ri3 Rj3=>?_
 have R83:=s3 _ _ h8i h82 R82;have h83:i8≠j3:=uC d3 h82 R82;clear Ri2 Rj2 R82 h82 s3 d3;have hl3:=aU (!gM t.load d) (17:Int);generalize hes3:es2++opt (!gM t.load d) (17:Int)=es3 at Rj3;replace hl3:es3.length≤3:=by rw[←hes3,Xac];omega
 simp only[go_sem,R83,hpn,b1];refine bB (pO _ _ _) ?_;simp only[go_sem,R83,hpn,b1];refine⟨_,fun _=>(pO _ _ _).q rfl,?_⟩;simp only[go_sem,R83,hpn,b1];refine sI _ _ Ri3 Rj3 (by first|omega|simp) fun _ j4 H4 s4 d4 Ri4 Rj4=>?_
 have R84:=s4 _ _ h8i h83 R83;have h84:i8≠j4:=uC d4 h83 R83;clear Ri3 Rj3 R83 h83 s4 d4;have hl4:=aU (!(inR t.pick.place (-1) (n.places.length-1)&&inR t.drop.place (-1) (n.places.length-1))) (11:Int);generalize hes4:es3++opt (!(inR t.pick.place (-1) (n.places.length-1)&&inR t.drop.place (-1) (n.places.length-1))) (11:Int)=es4 at Rj4;replace hl4:es4.length≤4:=by rw[←hes4,Xac];omega
 simp only[go_sem,R84,hpn,b1];refine sI _ _ Ri4 Rj4 (by first|omega|simp) fun _ j5 H5 s5 d5 Ri5 Rj5=>?_
 have R85:=s5 _ _ h8i h84 R84;have h85:i8≠j5:=uC d5 h84 R84;clear Ri4 Rj4 R84 h84 s5 d5;have hl5:=aU (!(t.pick.place != -1||t.drop.place != -1)) (19:Int);generalize hes5:es4++opt (!(t.pick.place != -1||t.drop.place != -1)) (19:Int)=es5 at Rj5;replace hl5:es5.length≤5:=by rw[←hes5,Xac];omega
 simp only[go_sem,R85,hpn,b1];refine bB (Ix _) ?_;simp only[go_sem,R85,hpn,b1];refine⟨_,fun _=>(Ix _).q rfl,?_⟩;simp only[go_sem,R85,hpn,b1];refine sI _ _ Ri5 Rj5 (by first|omega|simp) fun _ j6 H6 s6 d6 Ri6 Rj6=>?_
 have R86:=s6 _ _ h8i h85 R85;have h86:i8≠j6:=uC d6 h85 R85;clear Ri5 Rj5 R85 h85 s6 d6;have hl6:=aU (!(dR t.pick == 0&&dR t.drop == 0)) (14:Int);generalize hes6:es5++opt (!(dR t.pick == 0&&dR t.drop == 0)) (14:Int)=es6 at Rj6;replace hl6:es6.length≤6:=by rw[←hes6,Xac];omega
 simp only[go_sem,R86,hpn,b1];refine bB (pO _ _ _) ?_;simp only[go_sem,R86,hpn,b1];refine sI _ _ Ri6 Rj6 (by first|omega|simp) fun _ j7 H7 s7 d7 Ri7 Rj7=>?_
 have R87:=s7 _ _ h8i h86 R86;have h87:i8≠j7:=uC d7 h86 R86;clear Ri6 Rj6 R86 h86 s7 d7;have hl7:=aU (!inR t.skills 0 1073741823) (18:Int);generalize hes7:es6++opt (!inR t.skills 0 1073741823) (18:Int)=es7 at Rj7;replace hl7:es7.length≤7:=by rw[←hes7,Xac];omega
 simp only[go_sem,R87,hpn,b1];refine bB (Kh _ _) ?_;simp only[go_sem,R87,hpn,b1];refine sI _ _ Ri7 Rj7 (by first|omega|simp) fun _ j8 H8 s8 d8 Ri8 Rj8=>?_
 have R88:=s8 _ _ h8i h87 R87;have h88:i8≠j8:=uC d8 h87 R87;clear Ri7 Rj7 R87 h87 s8 d8;have hl8:=aU (!PB t T) (2:Int);generalize hes8:es7++opt (!PB t T) (2:Int)=es8 at Rj8;replace hl8:es8.length≤8:=by rw[←hes8,Xac];omega
 simp only[go_sem,R88,hpn,b1];simp only[go_sem,Ri8];refine⟨_,rfl,?_⟩;rw[Rj8,←hes8,←hes7,←hes6,←hes5,←hes4,←hes3,←hes2,←hes1,Po];unfold fE rI;simp only[Bool.not_not,Bool.not_and,Bool.not_or,bne]
theorem iM(P:Nat)(d T:Int)(l:List Order)(k:Nat)(o:Order):(fE P d T l k o).length≤9:=by
 have hx:∀(b:Bool) (e:Int),(opt b e).length≤1:=fun b e=>aU _ _
 unfold fE;simp only[Xac,List.length_nil];have a1:=hx (!dM o.name) 5;have a2:=hx (rI l k o.name) 6;have a3:=hx (!gM o.load d) 17;have a4:=hx (!inR o.pick.place (-1) ((P:Int)-1)|| !inR o.drop.place (-1) ((P:Int)-1)) 11;have a5:=hx (o.pick.place == -1&&o.drop.place == -1) 19;have a6:=hx (dR o.pick != 0||dR o.drop != 0) 14;have a7:=hx (!inR o.skills 0 1073741823) 18;have a8:=hx (!inR o.penalty (-1) 1000000|| !inR o.split 1 4||decide (o.split>1)&&(o.pick.place != -1&&o.drop.place != -1)||decide (o.last< -1)||decide (o.last≥T)||decide (o.now< -1)||decide (o.now≥T)) 2;omega
theorem P7(n:Network)(d T:Int)(l:List Order)(hl:l.length≤1048576)(hs:∀t∈l,t.name.size≤1048576∧t.load.length≤1048576)(hp:n.places.length≤1048576):
  PC prog 73 [.agg (aN n),int d,int T,.sl (l.map aB)] (.sl ((jY n d T l).map cE)):=by
 refine pcb (fun t=>t == 9) func73 rfl rfl ?_;simp only[go_sem];refine cN fun j hj=>?_
 simp only[go_sem];refine bI (fun ρ H=>∃j,ρ 1=int d∧ρ 2=int T∧ρ 3=.sl (l.map aB)∧ρ 4=.rp (aN n) 0∧ρ 9=.os j∧H j=some (aJ (opt (decide ((l.length:Int)>10)) ⟨4,ByteArray.empty⟩))) ?_ fun K hK=>aA (fun hb=>?_) (fun hb=>?_)
 rotate_left
 ·simp only[go_sem];refine aP (r:=aJ []) (by simp only[go_sem];rfl) ⟨rfl,rfl⟩ (by simp only[go_sem]) (by simp) (fun j' hj'=>?_);simp only[go_sem];refine hK _ _ ⟨j',rfl,rfl,rfl,rfl,rfl,?_⟩;rw[dW hb];exact cD (l:=[]) (l':=[⟨4,ByteArray.empty⟩]) rfl
 ·simp only[go_sem];refine hK _ _ ⟨j,rfl,rfl,rfl,rfl,rfl,?_⟩;rw[dV hb,aD];rfl
 rintro ρ H ⟨j,h1,h2,h3,h4,h9,hH⟩;generalize hpre:opt (decide ((l.length:Int)>10)) (⟨4,ByteArray.empty⟩:Fault)=pre at hH;have hprl:pre.length≤1:=by rw[←hpre];exact aU _ _
 simp only[go_sem,h1,h2,h3,h4,h9,Xab];refine⟨fun ρ H=>∃k:Nat,k≤l.length∧ρ 1=int d∧ρ 2=int T∧ρ 3=.sl (l.map aB)∧ρ 4=.rp (aN n) 0∧ρ 21=int l.length∧ρ 22=int k∧∃j,ρ 9=.os j∧H j=some (aJ (pre++(List.range k).flatMap (dS n d T l))),fun ρ _=>l.length-bO (ρ 22),
  ⟨0,Xad _,by simp only[go_sem,h1],by simp only[go_sem,h2],by simp only[go_sem,h3],by simp only[go_sem,h4],by simp only[go_sem],by simp only[go_sem];rfl,j,by simp only[go_sem,h9],by simpa using hH⟩,?_⟩
 clear hH h1 h2 h3 h4 h9;rintro ρ H ⟨k,hk,h1,h2,h3,h4,h21,h22,j,h9,hH⟩;generalize hes:pre++(List.range k).flatMap (dS n d T l)=es at hH;have hlen:es.length≤9*k+1:=by have:=cJ (f:=dS n d T l) (c:=9) (fun x=>by unfold dS;rw[Xab];exact iM _ _ _ _ _ _) (List.range k);rw[←hes,Xac];rw[Xau]at this;omega
 simp only[go_sem,h1,h2,h3,h4,h9,h21,h22];refine aA (fun hlt=>?_) (fun hge=>?_)
 ·have hlt:=bD hlt;obtain⟨t,ht⟩:=cG hlt;simp only[go_sem,h1,h2,h3,h4,h9,h21,h22];refine NC.use (Nj n d T l k t ht hl hs hp) fun p hp=>?_
  have hjp:j≠p:=bM hH hp;generalize hG:bG H p _=G;have Rp:G p=some (cT (fE n.places.length d T l k t)):=by rw[←hG,aD]
  have hH':G j=some (aJ es):=by rw[←hG,aK _ _ _ _ hjp];exact hH
  clear hG hH hp;have hel:=iM n.places.length d T l k t;have hR:(fE n.places.length d T l k t).map (fun e=>(⟨e,cO k⟩:Fault))=dS n d T l k:=by unfold dS;rw[I6 ht]
  generalize fE n.places.length d T l k t=er at hel hR Rp;simp only[go_sem,h1,h2,h3,h4,h9,h21,h22,Rp,Xab];refine⟨fun ρ H=>∃q:Nat,q≤er.length∧ρ 1=int d∧ρ 2=int T∧ρ 3=.sl (l.map aB)∧ρ 4=.rp (aN n) 0∧ρ 10=int k∧ρ 21=int l.length∧ρ 22=int k∧ρ 30=.os p∧ρ 31=int er.length∧ρ 32=int q∧H p=some (cT er)∧∃j,ρ 9=.os j∧j≠p∧H j=some (aJ (es++(er.take q).map fun e=>⟨e,cO k⟩)),fun ρ _=>er.length-bO (ρ 32),
   ⟨0,Xad _,by simp only[go_sem,h1],by simp only[go_sem,h2],by simp only[go_sem,h3],by simp only[go_sem,h4],by simp only[go_sem],by simp only[go_sem,h21],by simp only[go_sem,h22],by simp only[go_sem],by simp only[go_sem],by simp only[go_sem];rfl,Rp,j,by simp only[go_sem,h9],hjp,by simpa using hH'⟩,?_⟩
  clear hH' h1 h2 h3 h4 h9 h21 h22 Rp hjp;rintro ρ H ⟨q,hq,h1,h2,h3,h4,h10,h21,h22,h30,h31,h32,Rp,j,h9,hjp,hH⟩;simp only[go_sem,h1,h2,h3,h4,h9,h10,h21,h22,h30,h31,h32];refine aA (fun hlq=>?_) (fun hgq=>?_)
  ·have hlq:=bD hlq;obtain⟨e,he⟩:=cG hlq;have b2:=inB hlq;simp only[go_sem,h1,h2,h3,h4,h9,h10,h21,h22,h30,h31,h32,Rp,b2,aM he,Xab];refine⟨hlq,?_⟩;refine bB (tP k (by omega)) ?_;simp only[go_sem,h1,h2,h3,h4,h9,h10,h21,h22,h30,h31,h32];refine aP hH ⟨rfl,rfl⟩ (by simp only[go_sem]) (by simp only[Xab,Xaa,List.length_nil,Xac,Xas];omega) (fun j' hj'=>?_);simp only[go_sem,h1,h2,h3,h4,h9,h10,h21,h22,h30,h31,h32,cH q];refine⟨⟨q+1,hlq,rfl,cF Rp hjp hj',j',rfl,(bM Rp hj').symm,?_⟩,by simp only[aE];omega⟩;rw[show es++(er.take (q+1)).map (fun e=>(⟨e,cO k⟩:Fault))=(es++(er.take q).map fun e=>⟨e,cO k⟩)++[⟨e,cO k⟩]by rw[List.take_add_one,he];simp];exact cD (l':=[⟨e,cO k⟩]) rfl
  ·have hge:=bK hq hgq;subst hge;rw[Xaj (Xae _),hR]at hH;simp only[go_sem,h1,h2,h3,h4,h9,h21,h22,cH k];refine⟨⟨k+1,hlt,rfl,j,rfl,?_⟩,by simp only[aE];omega⟩;rw[cU,←Xar,hes];exact hH
 ·have hge:=bK hk hge;subst hge;simp only[go_sem,h9];refine .row _ _ _ (by rw[hH,←hes,←hpre]) ?_;exact ConvE.refl _
theorem Tl:yN prog 9=none:=by kernel_rfl
theorem eqP(p q:Pair):cZ [0,0] (bP p) (bP q)=some (p.a == q.a&&p.b == q.b):=by simp[bP,cZ,kA,rW]
theorem Jg:∀n:Nat,n≤1048576→PC prog 195 [int n] (str (cO n)):=by
 intro n;induction n using Nat.strongRecOn with
 | ind n ih=>
  intro hn;have hm:((n:Int).tmod 10)=((n%10:Nat):Int):=by rw[Int.tmod_eq_emod_of_nonneg (by omega)];omega
  have hq:((n:Int).tdiv 10)=((n/10:Nat):Int):=by rw[Int.tdiv_eq_ediv_of_nonneg (by omega)];omega
  have hlt:n%10<10:=Nat.mod_lt _ (by omega);have hw:IntKind.i64.wrap (48+((n%10:Nat):Int))=48+((n%10:Nat):Int):=dI (by omega);have hw2:IntKind.i32.wrap (48+((n%10:Nat):Int))=48+((n%10:Nat):Int):=by
   have:n%10=0∨n%10=1∨n%10=2∨n%10=3∨n%10=4∨n%10=5∨n%10=6∨n%10=7∨n%10=8∨n%10=9:=by omega
   rcases this with h|h|h|h|h|h|h|h|h|h <;> rw[h] <;> decide
  have hS:strOfNums [48+((n%10:Nat):Int)]=lD ((n%10:Nat):Int):=by
   unfold lD;rw[hw];have:n%10=0∨n%10=1∨n%10=2∨n%10=3∨n%10=4∨n%10=5∨n%10=6∨n%10=7∨n%10=8∨n%10=9:=by omega
   rcases this with h|h|h|h|h|h|h|h|h|h <;> rw[h] <;> decide
  refine pcd func195 rfl rfl ?_;simp only[go_sem];refine⟨by decide,?_⟩;rw[Tl];simp only[go_sem,hm,hw,hw2];refine⟨by omega,?_⟩;have hdec:=gG (n/10);rw[hS,cO];have hds:(lD ((n%10:Nat):Int)).size=1:=nQ _;refine aA (fun hb=>?_) (fun hb=>?_)
  ·simp only[go_sem];have h10:n<10:=by simp at hb;omega
   rw[if_pos h10,Nat.mod_eq_of_lt h10];exact .refl _
  ·have h10:¬n<10:=by simp at hb;omega
   have hwq:IntKind.i64.wrap ((n/10:Nat):Int)=((n/10:Nat):Int):=dI (by omega);simp only[go_sem,hq,hwq];refine⟨by decide,?_⟩;refine bB (ih (n/10) (by omega) (by omega)) ?_;simp only[go_sem];refine⟨by show(((cO (n/10)).size+(lD ((n%10:Nat):Int)).size:Nat):Int)≤9223372036854775807;omega,?_⟩;rw[if_neg h10];exact .refl _
theorem QI(p q:Pair):PC prog 135 [.agg (bP p),.agg (bP q)] (boo (gY false p q)):=by refine pcd func135 rfl rfl ?_;simp only[go_sem];rw[eqP];simp only[go_sem];refine cB ?_;unfold gY;rw[Xaw];simp only[Xag,Xan,Xba,Xbj,false_and,or_false];omega
theorem Ro(p q:Pair):PC prog 134 [.agg (bP p),.agg (bP q)] (boo (gY true p q)):=by refine pcd func134 rfl rfl ?_;simp only[go_sem];rw[eqP];simp only[go_sem];refine⟨fun _=>by decide,fun _=>by decide,fun _=>by decide,fun _=>by decide,?_⟩;refine cB ?_;unfold gY;rw[Xaw];simp only[Xag,Xan,Xba,Bool.true_and];omega
theorem Hs(n N:Int):PC prog 194 [int n,.rp [int N] 0] (boo (decide (n≥0)&&decide (n<N))):=by refine pcd func194 rfl rfl ?_;simp only[go_sem];exact .refl _
theorem Tc(N:Int)(p:Pair):rJ N p=((!(decide (p.a≥0)&&decide (p.a<N))|| !(decide (p.b≥0)&&decide (p.b<N)))||p.a == p.b):=by unfold rJ;rw[Xaw];simp only[Xba,decide_eq_true_eq,Xay,Xbd,decide_eq_false_iff_not,Xan];omega
theorem LD(N:Int)(l:List Pair)(w:ByteArray)(b:Bool)(g:FuncId)(hl:l.length≤1048576)(hw:w.size≤1048576)(hok:aF prog g=true)(hg:∀p q,PC prog g [.agg (bP p),.agg (bP q)] (boo (gY b p q))):
  NC prog 133 [int N,str w,.sl (l.map bP),.v (.func (.func g) #[] #[])] (aJ (mJ N l w b)) .os:=by
 refine ncb (fun t=>t == 9) func133 rfl rfl ?_;simp only[go_sem];refine cN fun j hj=>?_
 simp only[go_sem];refine bI (fun ρ H=>∃j,ρ 1=str w∧ρ 2=.sl (l.map bP)∧ρ 3=.v (.func (.func g) #[] #[])∧ρ 4=.rp [int N] 0∧ρ 9=.os j∧H j=some (aJ (opt (decide ((l.length:Int)>16)) ⟨4,w⟩))) ?_ fun K hK=>aA (fun hb=>?_) (fun hb=>?_)
 rotate_left
 ·simp only[go_sem];refine aP (r:=aJ []) (by simp only[go_sem];rfl) ⟨rfl,rfl⟩ (by simp only[go_sem]) (by simp) (fun j' hj'=>?_);simp only[go_sem];refine hK _ _ ⟨j',rfl,rfl,rfl,rfl,rfl,?_⟩;rw[dW hb];exact cD (l:=[]) (l':=[⟨4,w⟩]) rfl
 ·simp only[go_sem];refine hK _ _ ⟨j,rfl,rfl,rfl,rfl,rfl,?_⟩;rw[dV hb,aD];rfl
 rintro ρ H ⟨j,h1,h2,h3,h4,h9,hH⟩;generalize hpre:opt (decide ((l.length:Int)>16)) (⟨4,w⟩:Fault)=pre at hH;have hprl:pre.length≤1:=by rw[←hpre];exact aU _ _
 simp only[go_sem,h1,h2,h3,h4,h9,Xab];refine⟨fun ρ H=>∃k:Nat,k≤l.length∧ρ 1=str w∧ρ 2=.sl (l.map bP)∧ρ 3=.v (.func (.func g) #[] #[])∧ρ 10=.fn 194 [.rp [int N] 0]∧ρ 25=.sl (l.map bP)∧ρ 26=int l.length∧ρ 27=int k∧∃j,ρ 9=.os j∧H j=some (aJ (pre++(List.range k).flatMap (dB N l w b))),fun ρ _=>l.length-bO (ρ 27),
  ⟨0,Xad _,by simp only[go_sem,h1],by simp only[go_sem,h2],by simp only[go_sem,h3],by simp only[go_sem,h4],by simp only[go_sem],by simp only[go_sem],by simp only[go_sem];rfl,j,by simp only[go_sem,h9],by simpa using hH⟩,?_⟩
 clear hH h1 h2 h3 h4 h9;rintro ρ H ⟨k,hk,h1,h2,h3,h10,h25,h26,h27,j,h9,hH⟩;generalize hes:pre++(List.range k).flatMap (dB N l w b)=es at hH;have hlen:es.length≤k+1:=by have:=cJ (kN N l w b) (List.range k);rw[←hes,Xac];rw[Xau]at this;omega
 simp only[go_sem,h1,h2,h3,h9,h10,h25,h26,h27];refine aA (fun hlt=>?_) (fun hge=>?_)
 ·have hlt:=bD hlt;obtain⟨p,hp⟩:=cG hlt;have b1:=inB hlt;have hds:=gG k;have h32:(#[32]:Array UInt8).size=1:=rfl;simp only[go_sem,h1,h2,h3,h9,h10,h25,h26,h27,b1,aM hp];refine cN fun i hi=>?_
  simp only[go_sem];refine fD (aD _ _ _) (by simp[sL]) ?_;have hji:j≠i:=bM hH hi;generalize hG:bG (bG H i _) i _=G;have Rj:G j=some (aJ es):=by rw[←hG,aK _ _ _ _ hji,aK _ _ _ _ hji,hH]
  have Ri:G i=some ⟨114,2,[bP p]⟩:=by rw[←hG,aD];rfl
  clear hG hH hi;simp only[go_sem,h1,h2,h3,h9,h10,h25,h26,h27];refine⟨by show((w.size+1:Nat):Int)≤9223372036854775807;omega,?_⟩;refine bB (Jg k (by omega)) ?_;simp only[go_sem,h1,h2,h3,h9,h10,h25,h26,h27,Ri];refine⟨by show((w.size+1+(cO k).size:Nat):Int)≤9223372036854775807;omega,by decide,?_⟩;refine bB (Hs _ _) ?_;simp only[go_sem,h1,h2,h3,h9,h10,h25,h26,h27,Ri];refine⟨fun _=>by decide,_,fun _=>(Hs _ _).q rfl,?_⟩;simp only[go_sem,h1,h2,h3,h9,h10,h25,h26,h27,Ri];refine⟨fun _=>by decide,fun _=>by decide,?_⟩;have hfl:pre++(List.range (k+1)).flatMap (dB N l w b)=es++dB N l w b k:=by rw[cU,←Xar,hes]
  have hkk:k≤4611686018427387904:=by omega
  refine aA (fun hb=>?_) (fun hb=>?_)
  ·simp only[go_sem,h1,h2,h3,h9,h10,h25,h26,h27];refine aP Rj ⟨rfl,rfl⟩ (by simp only[go_sem]) (by simp only[Xab,Xaa,List.length_nil];omega) (fun j' hj'=>?_);simp only[go_sem,h1,h2,h3,h9,h10,h25,h26,h27,fM hkk];refine⟨⟨k+1,hlt,rfl,j',rfl,?_⟩,by simp only[aE];omega⟩;have hn:rJ N (pAt l k)=true:=by rw[tH hp,Tc];exact hb
   rw[hfl,dB,hn];exact cD (l':=[⟨2,nP w k⟩]) rfl
  ·have hn:rJ N (pAt l k)=false:=by rw[tH hp,Tc];exact hb
   simp only[go_sem,h1,h2,h3,h9,h10,h25,h26,h27];refine⟨⟨by omega,by omega⟩,?_⟩;rw[←List.map_take];have hLl:(l.take k).length=k:=by rw[Xas];omega
   generalize hL:l.take k=L at hLl;have hpf:dB N l w b k=opt (L.any (gY b p)) ⟨6,nP w k⟩:=by rw[dB,hn,tH hp,hL]
   simp only[go_sem,Xab,hLl];refine BQ (fun ρ' H'=>ρ' 1=str w∧ρ' 2=.sl (l.map bP)∧ρ' 3=.v (.func (.func g) #[] #[])∧ρ' 10=.fn 194 [.rp [int N] 0]∧ρ' 25=.sl (l.map bP)∧ρ' 26=int l.length∧ρ' 27=int k∧∃j,ρ' 9=.os j∧H' j=some (aJ (es++dB N l w b k))) ?_ fun Q hQ hR=>?_
   ·rintro ρ H ⟨h1,h2,h3,h10,h25,h26,h27,j,h9,hH⟩;simp only[go_sem,h1,h2,h3,h9,h10,h25,h26,h27,fM hkk];exact⟨⟨k+1,hlt,rfl,j,rfl,by rw[hfl];exact hH⟩,by simp only[aE];omega⟩
   refine⟨fun ρ H=>∃m:Nat,m≤L.length∧ρ 1=str w∧ρ 2=.sl (l.map bP)∧ρ 3=.v (.func (.func g) #[] #[])∧ρ 10=.fn 194 [.rp [int N] 0]∧ρ 12=.op i 0 0∧ρ 13=str (nP w k)∧ρ 25=.sl (l.map bP)∧ρ 26=int l.length∧ρ 27=int k∧ρ 63=.sl (L.map bP)∧ρ 64=int L.length∧ρ 65=int m∧H i=some ⟨114,2,[bP p]⟩∧(∀u∈L.take m,gY b p u=false)∧∃j,ρ 9=.os j∧j≠i∧H j=some (aJ es),fun ρ _=>L.length-bO (ρ 65),
    ⟨0,Xad _,by simp only[go_sem,h1],by simp only[go_sem,h2],by simp only[go_sem,h3],by simp only[go_sem,h10],by simp only[go_sem],by simp only[go_sem];rfl,by simp only[go_sem,h25],by simp only[go_sem,h26],by simp only[go_sem,h27],by simp only[go_sem],by simp only[go_sem,hLl],by simp only[go_sem];rfl,Ri,by simp,j,by simp only[go_sem,h9],hji,Rj⟩,?_⟩
   clear h1 h2 h3 h9 h10 h25 h26 h27 Ri Rj hji;rintro ρ H ⟨m,hm,h1,h2,h3,h10,h12,h13,h25,h26,h27,h63,h64,h65,Ri,hz,j,h9,hji,Rj⟩;simp only[go_sem,h1,h2,h3,h9,h10,h12,h13,h25,h26,h27,h63,h64,h65];refine aA (fun hlm=>?_) (fun hgm=>?_)
   ·have hlm:=bD hlm;obtain⟨q,hq⟩:=cG hlm;have b2:=inB hlm;simp only[go_sem,h1,h2,h3,h9,h10,h12,h13,h25,h26,h27,h63,h64,h65,b2,aM hq];refine cN fun i2 hi2=>?_
    simp only[go_sem];refine fD (aD _ _ _) (by simp[sL]) ?_;have hi2i:i≠i2:=bM Ri hi2;have hji2:j≠i2:=bM Rj hi2;generalize hG:bG (bG H i2 _) i2 _=G2;have Rj2:G2 j=some (aJ es):=by rw[←hG,aK _ _ _ _ hji2,aK _ _ _ _ hji2,Rj]
    have Ri2:G2 i=some ⟨114,2,[bP p]⟩:=by rw[←hG,aK _ _ _ _ hi2i,aK _ _ _ _ hi2i,Ri]
    have Rq:G2 i2=some ⟨114,2,[bP q]⟩:=by rw[←hG,aD];rfl
    clear hG hi2 Ri Rj;simp only[go_sem,h1,h2,h3,h9,h10,h12,h13,h25,h26,h27,h63,h64,h65,Ri2,Rq,hok];refine bB (hg p q) ?_;simp only[go_sem,h1,h2,h3,h9,h10,h12,h13,h25,h26,h27,h63,h64,h65];refine aA (fun hb2=>?_) (fun hb2=>?_)
    ·simp only[go_sem,h1,h2,h3,h9,h10,h12,h13,h25,h26,h27,h63,h64,h65];refine aP Rj2 ⟨rfl,rfl⟩ (by simp only[go_sem]) (by simp only[Xab,Xaa,List.length_nil];omega) (fun j' hj'=>?_);simp only[go_sem];refine hQ _ _ ⟨by simp only[go_sem,h1],by simp only[go_sem,h2],by simp only[go_sem,h3],by simp only[go_sem,h10],by simp only[go_sem,h25],by simp only[go_sem,h26],by simp only[go_sem,h27],j',by simp only[go_sem],?_⟩;rw[hpf,dW (List.any_eq_true.2 ⟨q,aQ hq,hb2⟩)];exact cD (l':=[⟨6,nP w k⟩]) rfl
    ·simp only[go_sem,h1,h2,h3,h9,h10,h12,h13,h25,h26,h27,h63,h64,h65,cH m];exact⟨⟨m+1,hlm,rfl,Ri2,mZ (p:=fun u=>gY b p u=false) hq hb2 hz,j,rfl,hji,Rj2⟩,by simp only[aE];omega⟩
   ·have hge:=bK hm hgm;subst hge;rw[Xaj (Xae _)]at hz;simp only[go_sem];refine hQ _ _ ⟨by simp only[go_sem,h1],by simp only[go_sem,h2],by simp only[go_sem,h3],by simp only[go_sem,h10],by simp only[go_sem,h25],by simp only[go_sem,h26],by simp only[go_sem,h27],j,by simp only[go_sem,h9],?_⟩;rw[hpf,dV (List.any_eq_false.2 fun u hu=>by rw[hz u hu];simp),Xah];exact Rj
 ·have hge:=bK hk hge;subst hge;simp only[go_sem,h9];exact⟨_,rfl,by rw[hH,←hes,←hpre];rfl⟩
theorem Dy(N:Int)(l:List Pair)(w:ByteArray)(b:Bool):(mJ N l w b).length≤l.length+1:=by have h1:=cJ (kN N l w b) (List.range l.length);have h2:=aU (decide ((l.length:Int)>16)) (⟨4,w⟩:Fault);rw[mJ,Xac];rw[Xau]at h1;omega
theorem OO(x:Instance)(ha:x.apart.length≤1048576)(hb:x.before.length≤1048576):
  PC prog 75 [int x.orders.length,.sl (x.apart.map bP),.sl (x.before.map bP)] (.sl ((kW x).map cE)):=by
 have l1:=Dy x.orders.length x.apart ⟨#[97,112,97,114,116]⟩ true;have l2:=Dy x.orders.length x.before ⟨#[98,101,102,111,114,101]⟩ false;refine pcd func75 rfl rfl ?_;simp only[go_sem];refine NC.use (LD _ x.apart ⟨#[97,112,97,114,116]⟩ true 134 ha (by decide) (by kernel_rfl) Ro) fun j hj=>?_
 simp only[go_sem];refine NC.use (LD _ x.before ⟨#[98,101,102,111,114,101]⟩ false 135 hb (by decide) (by kernel_rfl) QI) fun i hi=>?_
 simp only[go_sem];refine tL (jV (aD _ _ _) hi) (aD _ _ _) ⟨rfl,rfl⟩ (iV _) (by simp only[Xab];omega) (fun j' hj'=>?_);simp only[go_sem];unfold kW;exact .row _ _ _ (cD rfl) (ConvE.refl _)
end Nw
namespace Di
open Go.Proofs.Tryz
open Go.Aw Go.Aw.D Go.Proofs Go.RowKit Ty
def vZ:Go.Shelf.Ren:=⟨fun|4=>126|n=>n,fun|22=>80|25=>84|n=>n,fun|n=>n⟩
theorem A8:Lays8.n4 prog vZ:={
 mixed:=by kernel_rfl
 f4:=⟨"slices.Grow[[]lorry/api.Fault,lorry/api.Fault]",by decide,func126.trans (congrArg some (by kernel_rfl))⟩
 t0:=Tryz.underlying0
 a0:=Tryz.isAgg0
 z0:=Tryz.sizeOf0
 v0:=Tryz.zeroValue0
 t3:=Tryz.underlying3
 a3:=Tryz.isAgg3
 z3:=Tryz.sizeOf3
 v3:=Tryz.zeroValue3
 t4:=Tryz.underlying4
 a4:=Tryz.isAgg4
 z4:=Tryz.sizeOf4
 v4:=Tryz.zeroValue4
 t9:=Tryz.underlying9
 a9:=Tryz.isAgg9
 z9:=Tryz.sizeOf9
 v9:=Tryz.zeroValue9
 t20:=Tryz.underlying20
 a20:=Tryz.isAgg20
 z20:=Tryz.sizeOf20
 v20:=Tryz.zeroValue20
 t22:=Tryz.underlying80
 a22:=Tryz.isAgg80
 z22:=Tryz.sizeOf80
 v22:=Tryz.zeroValue80 }
theorem Nv{S:Sg}{w:World}{a b:Value}{vals:List Value}(h:aV S w [.v a,.v b] vals):vals=[a,b]:=by simp only[aV,rep]at h;obtain⟨_,_,rfl,rfl,_,_,rfl,rfl,rfl⟩:=h;rfl
theorem Le{H0:aC}{K:AV→aC→Prop}(hK:K (.v (.slice none 0 0)) H0):cK prog 126 [.v (.slice none 0 0),int 0] H0 K:=fun S w vals hS hr=>by obtain rfl:=Nv hr;refine(Any8.slices_Grow_room A8 none 0 0 0 w (by decide) (by decide) (by decide) (by decide)).mono ?_;rintro e w' ⟨rfl,rfl⟩;exact⟨_,_,H0,S,rfl,hK,hS,by simp only[rep],Grow.refl S w',dO.refl _ _⟩
end Di
namespace Di
open Go.Aw Go.Aw.D Go.Proofs Ty
theorem SM{P:Program}{f:FuncId}{args:List AV}(h:PC P f args (.v (.slice none 0 0))):PC P f args (.sl []):=fun S w vals h1 h2 h3=>(h S w vals h1 h2 h3).mono fun e w' q=>by obtain⟨v,r,H',S',e1,hr,q1,q2,q3,q4⟩:=q;subst hr;refine⟨v,.sl [],H',S',e1,rfl,q1,?_,q3,q4⟩;simp only[rep]at q2 ⊢;subst q2;exact⟨none,0,0,rfl,rfl,Xae _,Xad _,.inl trivial⟩
end Di
namespace Nw
open Go.Proofs.Tryz
open Go.Aw Go.Aw.D Go.Proofs Go.RowKit Ty
open Go.Proofs.YthbiheckeoknlaaGreatDoor
open Go.Proofs.YthbiheckeoknlaaGreatDoor.Di (A8 vZ Nv Le)
theorem QZ{H0:aC}{K:AV→aC→Prop}(m:Nat)(hm:1≤m)(hb:m≤4000000000000)(hK:∀k,H0 k=none→K (.os k) (bG H0 k (some ⟨84,2,[]⟩))):cK prog 126 [.v (.slice none 0 0),int m] H0 K:=fun S w vals hS hr=>by
 obtain rfl:=Nv hr;obtain⟨inf,z,hut,hi,hsz,hby,hpos,hbpos,hz,hzs⟩:=eG Tg;have h24:inf.bytes≤32:=by omega
 have hbig:(0+m)*inf.bytes≤140737488355328:=Xam (Nat.mul_le_mul (show 0+m≤4000000000000 by omega) h24) (by decide);refine(Any8.slices_Grow_grow A8 inf z hi hz (by omega) none 0 0 m [] w (Xae 0) (by omega) hbig (by omega) (by simp) (fun _=>rfl) (by simp)).mono ?_;rintro e w' ⟨rfl,rfl⟩;have hcap:=grownCap_le_maxLen w (0+m) 0 (vZ.t 25) (by show 0+m≤_;unfold maxLen;omega);have hge:=grownCap_ge w (0+m) 0 (vZ.t 25);generalize grownCap w (0+m) 0 (vZ.t 25)=cap at *;obtain⟨q1,q2⟩:=hS.newRow (e:=84) (sz:=2) (es:=[]) (xs:=[]) (cap:=cap) (cur:=([]:List Value).toArray++Builtin.zeroCells z.cells (0+m-0)++Builtin.zeroCells z.cells (cap-(0+m))) (w':=w.drew.alloc (.cells (([]:List Value).toArray++Builtin.zeroCells z.cells (0+m-0)++Builtin.zeroCells z.cells (cap-(0+m))) 84)) (by decide) (by simp) (by simp[aV]) (by simp) (Xad _) hcap (by simp only[Array.size_append,size_zeroCells,hzs];simp;omega) (by simp) rfl rfl rfl rfl;refine⟨_,.os S.N,_,_,rfl,hK S.N hS.fresh,q1,?_,q2,fun j hj h0=>?_⟩
 ·simp only[rep,Sg.addRow,if_true];exact⟨Nat.lt_succ_self _,rfl,_,_,_,rfl⟩
 ·rw[aK _ _ _ _ (Nat.ne_of_lt hj)];exact h0
theorem mR(s:ByteArray)(l:List Fault)(hs:s.size≤1048576)(hl:l.length≤4000000000000)(hf:small l):PC prog 70 [str s,.sl (l.map cE)] (.sl ((l.map (dT s)).map cE)):=by
 refine pcd func70 rfl rfl ?_;simp only[go_sem];refine⟨by omega,?_⟩;refine cN fun j hj=>?_
 simp only[go_sem,Xab];refine⟨fun ρ H=>∃k:Nat,k≤l.length∧ρ 0=str s∧ρ 12=.sl (l.map cE)∧ρ 13=int l.length∧ρ 14=int k∧∃j,ρ 5=.os j∧H j=some (aJ ((l.take k).map (dT s))),fun ρ _=>l.length-bO (ρ 14),
  ⟨0,Xad _,by simp only[go_sem],by simp only[go_sem],by simp only[go_sem],by simp only[go_sem];rfl,j,by simp only[go_sem],aD _ _ _⟩,?_⟩
 rintro ρ H ⟨k,hk,h0,h12,h13,h14,j,h5,hH⟩;simp only[go_sem,h0,h5,h12,h13,h14];refine aA (fun hlt=>?_) (fun hge=>?_)
 ·have hlt:=bD hlt;obtain⟨f,hf1⟩:=cG hlt;have b1:=inB hlt;have hsz:=hf f (aQ hf1);simp only[go_sem,h0,h5,h12,h13,h14,b1,aM hf1];refine cN fun i hi=>?_
  simp only[go_sem];refine fD (aD _ _ _) (by simp[qG]) ?_;have hji:j≠i:=bM hH hi;generalize hG:bG (bG H i _) i _=G;have Rj:G j=some (aJ ((l.take k).map (dT s))):=by rw[←hG,aK _ _ _ _ hji,aK _ _ _ _ hji,hH]
  have Ri:G i=some ⟨84,2,[cE f]⟩:=by rw[←hG,aD];rfl
  clear hG hH hi;simp only[go_sem,h0,h5,h12,h13,h14,Ri];have hst:(l.take (k+1)).map (dT s)=(l.take k).map (dT s)++[dT s f]:=by rw[List.take_add_one,hf1];simp
  have happ:∀t:ByteArray,dT s f=⟨f.err,t⟩→∀(j':Nat) (G':aC),bG G' j' (some ⟨84,2,((l.take k).map (dT s)).map cE++[[int f.err,str t]]⟩) j'=some (aJ ((l.take (k+1)).map (dT s))):=fun t ht j' G'=>by rw[hst,ht];exact cD (l':=[⟨f.err,t⟩]) rfl
  refine aA (fun hb=>?_) (fun hb=>?_)
  ·have he:(f.at_.toList == (⟨#[]⟩:ByteArray).toList)=false:=by simpa using hb
   simp only[go_sem,h0,h5,h12,h13,h14,Ri];refine⟨by show((1+f.at_.size:Nat):Int)≤9223372036854775807;omega,by show((s.size+(1+f.at_.size):Nat):Int)≤9223372036854775807;omega,?_⟩;refine aP Rj ⟨rfl,rfl⟩ (by simp only[go_sem]) (by simp only[Xab,Xaa,List.length_nil,Xas];omega) (fun j' hj'=>?_);simp only[go_sem,h0,h5,h12,h13,h14,cH k];exact⟨⟨k+1,hlt,rfl,j',rfl,happ _ (by unfold dT;rw[he,ByteArray.append_assoc]) _ _⟩,by simp only[aE];omega⟩
  ·have he:(f.at_.toList == (⟨#[]⟩:ByteArray).toList)=true:=by simpa using hb
   simp only[go_sem,h0,h5,h12,h13,h14,Ri];refine aP Rj ⟨rfl,rfl⟩ (by simp only[go_sem]) (by simp only[Xab,Xaa,List.length_nil,Xas];omega) (fun j' hj'=>?_);simp only[go_sem,h0,h5,h12,h13,h14,cH k];exact⟨⟨k+1,hlt,rfl,j',rfl,happ _ (by unfold dT;rw[he]) _ _⟩,by simp only[aE];omega⟩
 ·have hge:=bK hk hge;subst hge;rw[Xaj (Xae _)]at hH;simp only[go_sem,h5];exact .row _ _ _ hH (ConvE.refl _)
abbrev AO(l:List Fault):List AV:=[.sl (l.map cE)]
theorem DH{L:List (List Fault)}{k:Nat}{l:List Fault}(h:L[k]?=some l):(L.take (k+1)).flatten=(L.take k).flatten++l:=by rw[List.take_add_one,h];simp
theorem gZ(L:List (List Fault))(k:Nat):(L.take k).flatten.length≤L.flatten.length:=by
 have h:L.flatten=(L.take k).flatten++(L.drop k).flatten:=by rw[←List.flatten_append,List.take_append_drop]
 rw[h,Xac];omega
theorem NA(L:List (List Fault))(hL:L.length≤1048576)(hm:L.flatten.length≤4000000000000):
  PC prog 69 [.sl (L.map AO)] (.sl (L.flatten.map cE)):=by
 by_cases h0:L.flatten=[]
 ·rw[h0];refine Di.SM ?_;have hall:∀l∈L,l=[]:=fun l hl=>List.flatten_eq_nil_iff.1 h0 l hl
  refine pcb (fun t=>t == 24) func69 rfl rfl ?_;simp only[go_sem];refine⟨fun ρ H=>∃(k:Nat),k≤L.length∧ρ 0=.sl (L.map AO)∧ρ 3=int 0∧ρ 9=.sl (L.map AO)∧ρ 10=int (L.length:Nat)∧ρ 11=int k,fun ρ _=>L.length-bO (ρ 11),⟨0,Xad _,by simp only[go_sem],by simp only[go_sem],by simp only[go_sem],by simp only[go_sem,Xab],(by simp only[go_sem];rfl)⟩,?_⟩;rintro ρ H ⟨k,hk,e0,e3,e9,e10,e11⟩;simp only[go_sem,e0,e3,e9,e10,e11];refine aA (fun hlt=>?_) (fun hge=>?_)
  ·have hlt:=ltB (by simpa using hlt);obtain⟨l,hl⟩:=cG hlt;have b1:=inB hlt;have hn:=hall l (aQ hl);subst hn;simp only[go_sem,e0,e3,e9,e10,e11,aM hl,b1,Xao,List.length_nil];refine aA (fun hb=>absurd hb (by decide)) (fun hb=>?_);simp only[go_sem,e0,e3,e9,e10,e11,cH k];exact⟨⟨k+1,hlt,rfl,rfl⟩,by simp only[aE];omega⟩
  ·simp only[go_sem,e0,e3,e9,e10,e11];refine Le ?_;simp only[go_sem,e0,e3,e9,e10,e11,Xab];refine⟨fun ρ H=>∃(k:Nat),k≤L.length∧ρ 6=.v (.slice none 0 0)∧ρ 25=.sl (L.map AO)∧ρ 26=int (L.length:Nat)∧ρ 27=int k,fun ρ _=>L.length-bO (ρ 27),⟨0,Xad _,by simp only[go_sem,e0,e3,e9,e10,e11],by simp only[go_sem,e0,e3,e9,e10,e11],by simp only[go_sem,Xab,e0,e3,e9,e10,e11],(by simp only[go_sem,e0,e3,e9,e10,e11];rfl)⟩,?_⟩;rintro ρ H ⟨k,hk,e6,e25,e26,e27⟩;simp only[go_sem,e6,e25,e26,e27];refine aA (fun hlt=>?_) (fun hge=>?_)
   ·have hlt:=ltB (by simpa using hlt);obtain⟨l,hl⟩:=cG hlt;have b1:=inB hlt;have hn:=hall l (aQ hl);subst hn;simp only[go_sem,e6,e25,e26,e27,aM hl,b1,Xao];refine Me rfl (.inl rfl) (.inl rfl) ?_;simp only[go_sem,e6,e25,e26,e27,cH k];exact⟨⟨k+1,hlt,rfl⟩,by simp only[aE];omega⟩
   ·simp only[go_sem,e6,e25,e26,e27];exact .refl _
 ·have hpos:1≤L.flatten.length:=Xbf.2 h0;refine pcb (fun t=>t == 24) func69 rfl rfl ?_;simp only[go_sem];refine⟨fun ρ H=>∃(k:Nat),k≤L.length∧ρ 0=.sl (L.map AO)∧ρ 9=.sl (L.map AO)∧ρ 10=int (L.length:Nat)∧ρ 11=int k∧ρ 3=int ((L.take k).flatten.length:Nat),fun ρ _=>L.length-bO (ρ 11),⟨0,Xad _,by simp only[go_sem],by simp only[go_sem],by simp only[go_sem,Xab],(by simp only[go_sem];rfl),by simp only[go_sem];rfl⟩,?_⟩;rintro ρ H ⟨k,hk,e0,e9,e10,e11,e3⟩;simp only[go_sem,e0,e9,e10,e11,e3];refine aA (fun hlt=>?_) (fun hge=>?_)
  ·have hlt:=ltB (by simpa using hlt);obtain⟨l,hl⟩:=cG hlt;have b1:=inB hlt;have ft:=DH hl;have fl:=gZ L (k+1);rw[ft,Xac]at fl;have hw:IntKind.i64.wrap (((L.take k).flatten.length:Nat)+(l.length:Nat):Int)=(((L.take k).flatten.length+l.length:Nat):Int):=by rw[dI (by omega)];omega
   simp only[go_sem,e0,e9,e10,e11,e3,aM hl,b1,Xab,hw];refine aA (fun hb=>absurd hb (by simp;omega)) (fun hb=>?_);simp only[go_sem,e0,e9,e10,e11,e3,cH k];exact⟨⟨k+1,hlt,rfl,by rw[ft,Xac]⟩,by simp only[aE];omega⟩
  ·have hge:=geB hk (by simpa using hge);subst hge;rw[Xaj (Xae _)]at e3;simp only[go_sem,e0,e9,e10,e11,e3];refine QZ _ hpos hm fun j hj=>?_
   have Rj:bG H j (some ⟨84,2,[]⟩) j=some (aJ []):=aD _ _ _;generalize bG H j (some ⟨84,2,[]⟩)=G at *;simp only[go_sem,e0,e9,e10,e11,e3,Xab];refine⟨fun ρ H=>∃(k:Nat) (j:Nat),k≤L.length∧ρ 25=.sl (L.map AO)∧ρ 26=int (L.length:Nat)∧ρ 27=int k∧ρ 6=.os j∧H j=some (aJ (L.take k).flatten),fun ρ _=>L.length-bO (ρ 27),⟨0,j,Xad _,by simp only[go_sem,e0,e9,e10,e11,e3],by simp only[go_sem,Xab,e0,e9,e10,e11,e3],(by simp only[go_sem,e0,e9,e10,e11,e3];rfl),by simp only[go_sem],Rj⟩,?_⟩;rintro ρ H ⟨k,j,hk,e25,e26,e27,e6,R⟩;simp only[go_sem,e25,e26,e27,e6];refine aA (fun hlt=>?_) (fun hge=>?_)
   ·have hlt:=ltB (by simpa using hlt);obtain⟨l,hl⟩:=cG hlt;have b1:=inB hlt;have ft:=DH hl;have fl:=gZ L (k+1);rw[ft,Xac]at fl;simp only[go_sem,e25,e26,e27,e6,aM hl,b1];refine aP R ⟨rfl,rfl⟩ (iV _) (by simp only[Xab];omega) (fun j' hj'=>?_);simp only[go_sem,e25,e26,e27,e6,cH k];refine⟨⟨k+1,j',hlt,rfl,rfl,?_⟩,by simp only[aE];omega⟩;rw[ft];exact cD rfl
   ·have hge:=geB hk (by simpa using hge);subst hge;rw[Xaj (Xae _)]at R;simp only[go_sem,e25,e26,e27,e6];exact .row _ _ _ R (ConvE.refl _)
end Nw
namespace Nw
open Go.Proofs.Tryz
open Go.Aw Go.Aw.D Go.Proofs Ty
open Go.Proofs.YthbiheckeoknlaaGreatDoor
theorem Qe(l:List VType)(hl:l.length≤1048576):PC prog 74 [.sl (l.map aX)] (int (hY l)):=by
 refine pcd func74 rfl rfl ?_;simp only[go_sem];cases l with
 | nil=>refine aA (fun _=>?_) (fun h=>absurd h (by decide));simp only[go_sem];exact .refl _
 | cons t r=>
  refine aA (fun h=>?_) (fun h=>?_)
  ·simp at h;omega
  ·simp only[go_sem];exact⟨⟨Int.le_refl _,by omega⟩,.refl _⟩
theorem rZ(x:Instance)(h:InB x):PC prog 32 [.agg (aO x)] (.sl ((iI x).map cE)):=by
 have l1:=Hq x h;have l2:=Bp x.net x.types;have l3:=zF x.net (hY x.types) x.types.length x.orders;have l4:(kW x).length≤2097154:=by have a1:=lA x.orders.length x.apart ⟨#[97,112,97,114,116]⟩ true;have a2:=lA x.orders.length x.before ⟨#[98,101,102,111,114,101]⟩ false;have:=h.apart;have:=h.before;rw[kW,Xac];omega
 have s1:=DW x.net h.places h.arcs;have s2:=zN x.net x.types h.types;have s3:=xC x.net (hY x.types) x.types.length x.orders h.orders;have s4:small (kW x):=fS (oN _ _ _ _ h.apart (by decide)) (oN _ _ _ _ h.before (by decide));have ht:=h.types;have ho:=h.orders;refine pcd func32 rfl rfl ?_;simp only[go_sem];refine bX [(0,true),(1,true),(4,true),(5,true),(6,true),(7,true),(10,true),(11,true),(12,true),(13,true),(15,true),(16,true),(17,true),(18,true),(19,true),(22,true),(23,true),(24,true),(25,true),(26,true),(27,true),(28,true),(2,false),(3,false),(8,false),(9,false),(14,false),(20,false),(21,false),(29,false),(30,false),(31,false),(32,false),(33,true)] (by kernel_rfl) ?_;simp only[go_sem,Xab];refine bB (Pd x.net h.places h.place h.arcs h.arc) ?_;simp only[go_sem];refine bB (mR ⟨#[110,101,116]⟩ _ (by decide) (by omega) s1) ?_;simp only[go_sem];refine bB (PN x.net x.types h.types h.type h.places) ?_;simp only[go_sem];refine bB (mR ⟨#[116,121,112,101,115]⟩ _ (by decide) (by omega) s2) ?_;simp only[go_sem];refine bB (Qe x.types h.types) ?_;simp only[go_sem];refine bB (P7 x.net _ _ x.orders h.orders h.order h.places) ?_;simp only[go_sem];refine bB (mR ⟨#[111,114,100,101,114,115]⟩ _ (by decide) (by omega) s3) ?_;simp only[go_sem];refine bB (OO x h.apart h.before) ?_;simp only[go_sem];refine bB (mR ⟨#[114,117,108,101,115]⟩ _ (by decide) (by omega) s4) ?_;simp only[go_sem];refine bB (NA [(yL x.net).map (dT ⟨#[110,101,116]⟩),(lE x.net x.types).map (dT ⟨#[116,121,112,101,115]⟩),(jY x.net (hY x.types) x.types.length x.orders).map (dT ⟨#[111,114,100,101,114,115]⟩),(kW x).map (dT ⟨#[114,117,108,101,115]⟩)] (by simp) (by simp only[List.flatten_cons,List.flatten_nil,Xac,Xab,List.length_nil];omega)) ?_;simp only[go_sem];rw[show[(yL x.net).map (dT ⟨#[110,101,116]⟩),(lE x.net x.types).map (dT ⟨#[116,121,112,101,115]⟩),(jY x.net (hY x.types) x.types.length x.orders).map (dT ⟨#[111,114,100,101,114,115]⟩),(kW x).map (dT ⟨#[114,117,108,101,115]⟩)].flatten=iI x by unfold iI;simp only[List.flatten_cons,List.flatten_nil,Xah,Xar]];exact .refl _
end Nw
namespace Sc
open Go.Aw Go.Aw.D Go.Proofs Ty
open Go.RowKit (Below)
open Go.Proofs.YthbiheckeoknlaaGreatDoor
open Go.Proofs.YthbiheckeoknlaaGreatDoor.Nw (ltB geB rZ)
structure OkArc(a:Arc):Prop where
 src:bH a.src
 dst:bH a.dst
 profile:bH a.profile
 miles:bH a.miles
 tl:a.travel.length≤1048576
 travel:∀p∈a.travel,gH p
 sl:a.slow.length≤1048576
 slow:∀p∈a.slow,gH p
structure OkType(t:VType):Prop where
 name:t.name.size≤1048576
 count:bH t.count
 src:bH t.src
 dst:bH t.dst
 cl:t.cap.length≤1048576
 cap:∀n∈t.cap,bH n
 skills:bH t.skills
 profile:bH t.profile
 start:bH t.start
 close:bH t.close
 drive:bH t.drive
 rest:bH t.rest
 fixed:bH t.fixed
 perMile:bH t.perMile
 perTick:bH t.perTick
structure OkOrder(o:Order):Prop where
 name:o.name.size≤1048576
 ll:o.load.length≤1048576
 load:∀n∈o.load,bH n
 pick:jQ o.pick
 drop:jQ o.drop
 skills:bH o.skills
 penalty:bH o.penalty
 split:bH o.split
 last:bH o.last
 now:bH o.now
def kZ(p:Pair):Prop:=bH p.a∧bH p.b
structure OkI(x:Instance):Prop where
 inB:InB x
 pl:x.net.places.length≤2000
 al:x.net.arcs.length≤2000
 tl:x.types.length≤2000
 ol:x.orders.length≤2000
 ap:x.apart.length≤2000
 be:x.before.length≤2000
 arc:∀a∈x.net.arcs,OkArc a
 type:∀a∈x.types,OkType a
 order:∀a∈x.orders,OkOrder a
 apart:∀a∈x.apart,kZ a
 before:∀a∈x.before,kZ a
def iD(x:Instance):ByteArray×Int:=match iI x with
 | f::_=>(⟨#[]⟩,f.err)
 | []=>if 65536<(mC x).size then(⟨#[]⟩,4)else(mC x,0)
theorem rE{s:Stop}(h:jQ s):(eQ s).size≤100:=by
 unfold eQ;split
 ·exact(by decide:(1:Nat)≤100)
 ·refine Xam (pQ (s:=⟨#[58]⟩) (f:=aH) (B:=21) [s.place,s.start,s.close,s.service] fun n hn=>bT ?_) (by show 4*(1+21)≤100;decide);simp only[Xaf,List.not_mem_nil,or_false]at hn;rcases hn with rfl|rfl|rfl|rfl
  ·exact h.1
  ·exact h.2.1
  ·exact h.2.2.1
  ·exact h.2.2.2
theorem fC{ws:List Wd}(hl:ws.length≤19)(h:∀w∈ws,okW w):(nI (ws.map txW)).size≤2000000000:=by
 have:=pQ (s:=spB) (f:=txW) (B:=100000000) ws fun w hw=>P8 (h w hw)
 have h1:spB.size=1:=rfl;have h2:nlB.size=1:=rfl;rw[h1]at this;unfold nI;rw[ByteArray.size_append,h2];omega
theorem Ag{α:Type}{f:α→ByteArray}{l:List α}(hl:l.length≤2000)(h:∀a∈l,(f a).size≤2000000000)(k:Nat):(gL ((l.take k).map f)).size≤4000000000000:=by
 have:=tN (B:=2000000000) ((l.take k).map f) fun a ha=>by obtain⟨x,hx,rfl⟩:=Xat.1 ha;exact h x (List.mem_of_mem_take hx)
 rw[Xab,Xas]at this;omega
def xI(s:ByteArray):List Wd:=[.s ⟨#[112,108,97,99,101]⟩,.s s]
def M0(a:Arc):List Wd:=[.s ⟨#[97,114,99]⟩,.i a.src,.i a.dst,.i a.profile,.i a.miles,.s (eP a.travel),.s (eP a.slow)]
def yZ(t:VType):List Wd:=[.s ⟨#[116,121,112,101]⟩,.s t.name,.i t.count,.i t.src,.i t.dst,.s (iB t.cap),.i t.skills,.i t.profile,.i t.start,.i t.close,.i t.drive,.i t.rest,.i t.fixed,.i t.perMile,.i t.perTick]
def sS(o:Order):List Wd:=[.s ⟨#[111,114,100,101,114]⟩,.s o.name,.s (iB o.load),.s (eQ o.pick),.s (eQ o.drop),.i o.skills,.i o.penalty,.i o.split,.i o.last,.i o.now,.s (onS o.off)]
def yF(p:Pair):List Wd:=[.s ⟨#[97,112,97,114,116]⟩,.i p.a,.i p.b]
def tQ(p:Pair):List Wd:=[.s ⟨#[98,101,102,111,114,101]⟩,.i p.a,.i p.b]
theorem okS{t:ByteArray}(h:t.size≤100000000):okW (.s t):=h
theorem K5{s:ByteArray}(h:s.size≤1048576):∀w∈xI s,okW w:=by
 intro w hw;simp only[xI,Xaf,List.not_mem_nil,or_false]at hw;rcases hw with rfl|rfl
 ·exact okS (by decide:(5:Nat)≤100000000)
 ·exact okS (by omega)
theorem Nt{a:Arc}(h:OkArc a):∀w∈M0 a,okW w:=by
 intro w hw;have h1:=mT h.tl h.travel;have h2:=mT h.sl h.slow;simp only[M0,Xaf,List.not_mem_nil,or_false]at hw;rcases hw with rfl|rfl|rfl|rfl|rfl|rfl|rfl
 ·exact okS (by decide:(3:Nat)≤100000000)
 ·exact h.src
 ·exact h.dst
 ·exact h.profile
 ·exact h.miles
 ·exact okS (by omega)
 ·exact okS (by omega)
theorem Ff{t:VType}(h:OkType t):∀w∈yZ t,okW w:=by
 intro w hw;have h1:=nW h.cl h.cap;have h2:=h.name;simp only[yZ,Xaf,List.not_mem_nil,or_false]at hw;rcases hw with rfl|rfl|rfl|rfl|rfl|rfl|rfl|rfl|rfl|rfl|rfl|rfl|rfl|rfl|rfl
 ·exact okS (by decide:(4:Nat)≤100000000)
 ·exact okS (by omega)
 ·exact h.count
 ·exact h.src
 ·exact h.dst
 ·exact okS (by omega)
 ·exact h.skills
 ·exact h.profile
 ·exact h.start
 ·exact h.close
 ·exact h.drive
 ·exact h.rest
 ·exact h.fixed
 ·exact h.perMile
 ·exact h.perTick
theorem AE{o:Order}(h:OkOrder o):∀w∈sS o,okW w:=by
 intro w hw;have h1:=nW h.ll h.load;have h2:=h.name;have h3:=rE h.pick;have h4:=rE h.drop;simp only[sS,Xaf,List.not_mem_nil,or_false]at hw;rcases hw with rfl|rfl|rfl|rfl|rfl|rfl|rfl|rfl|rfl|rfl|rfl
 ·exact okS (by decide:(5:Nat)≤100000000)
 ·exact okS (by omega)
 ·exact okS (by omega)
 ·exact okS (by omega)
 ·exact okS (by omega)
 ·exact h.skills
 ·exact h.penalty
 ·exact h.split
 ·exact h.last
 ·exact h.now
 ·cases o.off
  ·exact okS (by decide:(2:Nat)≤100000000)
  ·exact okS (by decide:(3:Nat)≤100000000)
theorem HF{p:Pair}(h:kZ p):∀w∈yF p,okW w:=by
 intro w hw;simp only[yF,Xaf,List.not_mem_nil,or_false]at hw;rcases hw with rfl|rfl|rfl
 ·exact okS (by decide:(5:Nat)≤100000000)
 ·exact h.1
 ·exact h.2
theorem CY{p:Pair}(h:kZ p):∀w∈tQ p,okW w:=by
 intro w hw;simp only[tQ,Xaf,List.not_mem_nil,or_false]at hw;rcases hw with rfl|rfl|rfl
 ·exact okS (by decide:(6:Nat)≤100000000)
 ·exact h.1
 ·exact h.2
theorem A6(x:Instance)(h:OkI x):(Dr x).size≤4000000000000∧(Dg x).size≤8000000000000∧(Dw x).size≤12000000000000∧(D8 x).size≤16000000000000∧(Dc x).size≤20000000000000∧(zY x).size≤24000000000000:=by have c1:=Ag (f:=vB) h.pl (fun a ha=>fC (ws:=xI a) (by simp[xI]) (K5 (h.inB.place a ha))) x.net.places.length;have c2:=Ag (f:=KC) h.al (fun a ha=>fC (ws:=M0 a) (by simp[M0]) (Nt (h.arc a ha))) x.net.arcs.length;have c3:=Ag (f:=uD) h.tl (fun a ha=>fC (ws:=yZ a) (by simp[yZ]) (Ff (h.type a ha))) x.types.length;have c4:=Ag (f:=qV) h.ol (fun a ha=>fC (ws:=sS a) (by simp[sS]) (AE (h.order a ha))) x.orders.length;have c5:=Ag (f:=uR) h.ap (fun a ha=>fC (ws:=yF a) (by simp[yF]) (HF (h.apart a ha))) x.apart.length;have c6:=Ag (f:=qS) h.be (fun a ha=>fC (ws:=tQ a) (by simp[tQ]) (CY (h.before a ha))) x.before.length;rw[Xaj (Xae _)]at c1 c2 c3 c4 c5 c6;unfold zY Dc D8 Dw Dg Dr;simp only[ByteArray.size_append];omega
end Sc
namespace Sk
open Go.Aw Go.Aw.D Go.Proofs Ty
open Go.Proofs.YthbiheckeoknlaaGreatDoor
open Go.Proofs.YthbiheckeoknlaaGreatDoor.Nw (ltB geB cB)
open Go.Proofs.YthbiheckeoknlaaGreatDoor.Sc
def iG(a z:List AV)(k:Nat):List AV:=a.take k++z.drop k
section
variable{H:aC}{b:Nat}
end
end Sk
end Go.Proofs.YthbiheckeoknlaaGreatDoor
