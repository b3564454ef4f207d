import Derived.Test.YthbiheckeoknlaaGreatDoorPp09
set_option linter.unusedSimpArgs false
set_option linter.unusedVariables false
set_option linter.defProp false
set_option maxRecDepth 100000
namespace Go.Proofs.YthbiheckeoknlaaGreatDoor
open Go.Aw Go.Aw.D Go.Proofs Ty
namespace Sk
open Go.Proofs.Tryz
open Go.Proofs.YthbiheckeoknlaaGreatDoor
open Go.Proofs.YthbiheckeoknlaaGreatDoor.Nw (ltB geB cB cI)
open Go.Proofs.YthbiheckeoknlaaGreatDoor.Sc
def eJ:List ByteArray:=[⟨#[112,108,97,99,101]⟩,⟨#[97,114,99]⟩,⟨#[116,121,112,101]⟩,⟨#[111,114,100,101,114]⟩,⟨#[97,112,97,114,116]⟩,⟨#[98,101,102,111,114,101]⟩,⟨#[101,110,100]⟩]
theorem xZ:∀i<7,∀k<7,((eJ.getD k ⟨#[]⟩).toList == (eJ.getD i ⟨#[]⟩).toList)=decide (k=i):=by decide +kernel
theorem ON(i:Nat)(hi:i<7):PC prog 31 [str (eJ.getD i ⟨#[]⟩)] (int (i+1:Nat)):=by
 refine pcd func31 rfl rfl ?_;simp only[go_sem];refine⟨fun ρ H=>∃k:Nat,k≤i∧ρ 0=str (eJ.getD i ⟨#[]⟩)∧ρ 5=.sl (eJ.map D.bE)∧ρ 6=int (7:Nat)∧ρ 7=int k,fun ρ _=>7-bO (ρ 7),⟨0,Xad _,by simp only[go_sem],by simp only[go_sem];rfl,by simp only[go_sem],(by simp only[go_sem];rfl)⟩,?_⟩;rintro ρ H ⟨k,hk,e0,e5,e6,e7⟩;simp only[go_sem,e0,e5,e6,e7];have hlt:k<eJ.length:=by show k<7;omega
 refine aA (fun _=>?_) (fun h=>absurd (of_decide_eq_false h) (by omega));have hg:eJ[k]?=some (eJ.getD k ⟨#[]⟩):=by rw[List.getElem?_eq_getElem hlt,List.getD_eq_getElem?_getD,List.getElem?_eq_getElem hlt];rfl
 have b1:=inB hlt;simp only[go_sem,e0,e5,e6,e7,aM hg,b1];rw[xZ i hi k (by omega)];refine aA (fun h=>?_) (fun h=>?_)
 ·have h:k=i:=of_decide_eq_true h;subst h;simp only[go_sem,e0,e5,e6,e7,cH k];exact .refl _
 ·have h:k≠i:=of_decide_eq_false h;simp only[go_sem,e0,e5,e6,e7,cH k];exact⟨⟨k+1,by omega,rfl⟩,by simp only[aE];omega⟩
end Sk
namespace Sc
open Go.Proofs.Tryz
open Go.RowKit (Below)
open Go.Proofs.YthbiheckeoknlaaGreatDoor
open Go.Proofs.YthbiheckeoknlaaGreatDoor.Nw (ltB geB)
theorem SN{H:aC}{a b:ByteArray}(h:a=b):Conv H (str a) (str b):=h▸.refl _
theorem qd{H:aC}(n:Int)(h:bH n):dE prog 53 [int n] H (str (aH n)):=.inl ⟨_,.cons _ _ _ _ (.refl _) .nil,iH n h,rfl⟩
theorem qi{f:FuncId}{H:aC}{a:AV}{s:ByteArray}(h:PC prog f [a] (str s)):dE prog f [a] H (str s):=.inl ⟨_,.cons _ _ _ _ (.refl _) .nil,h,rfl⟩
theorem yK(s:Stop)(hz:jQ s):PC prog 100 [.agg (dQ s)] (str (eQ s)):=by
 have s1:=bT hz.1;have s2:=bT hz.2.1;have s3:=bT hz.2.2.1;have s4:=bT hz.2.2.2;refine pcd func100 rfl rfl ?_;simp only[go_sem];have hzs:(s.place == -1&&(s.start == 0&&(s.close == 0&&(s.service == 0&&true))))=eK s:=by unfold eK;simp[Bool.and_assoc]
 refine aA (fun hb=>?_) (fun hb=>?_) <;> rw[hzs]at hb
 ·simp only[go_sem];have:eQ s=⟨#[46]⟩:=if_pos hb;rw[this];exact .refl _
 ·simp only[go_sem];refine bX [(0,true),(1,true),(2,true),(3,true),(4,true),(5,true),(6,true),(7,true),(8,true),(9,true),(10,true),(11,true),(12,true),(13,true),(14,true),(15,true),(16,true),(17,true),(18,true)] (by kernel_rfl) ?_;simp only[go_sem];refine⟨_,qd _ hz.1,?_⟩;simp only[go_sem];refine⟨by rw[bA];first|omega|(simp only[ByteArray.size_append,List.size_toArray,Xaa,List.length_nil];omega),_,qd _ hz.2.1,?_⟩;simp only[go_sem];refine⟨by rw[bA];first|omega|(simp only[ByteArray.size_append,List.size_toArray,Xaa,List.length_nil];omega),by rw[bA];first|omega|(simp only[ByteArray.size_append,List.size_toArray,Xaa,List.length_nil];omega),_,qd _ hz.2.2.1,?_⟩;simp only[go_sem];refine⟨by rw[bA];first|omega|(simp only[ByteArray.size_append,List.size_toArray,Xaa,List.length_nil];omega),by rw[bA];first|omega|(simp only[ByteArray.size_append,List.size_toArray,Xaa,List.length_nil];omega),_,qd _ hz.2.2.2,?_⟩;simp only[go_sem];refine⟨by rw[bA];first|omega|(simp only[ByteArray.size_append,List.size_toArray,Xaa,List.length_nil];omega),SN ?_⟩;unfold eQ;rw[if_neg (by rw[hb];simp)];simp only[Xak,Xao,aZ,bS,cY,dP,bQ]
theorem zQ(l:List Point)(hl:l.length≤1048576)(hz:∀n∈l,gH n):PC prog 49 [.sl (l.map bL)] (str (eP l)):=by
 by_cases h0:l=[]
 ·subst h0;refine pcd func49 rfl rfl ?_;simp only[go_sem];refine aA (fun hb=>?_) (fun hb=>absurd hb (by simp));simp only[go_sem];exact .refl _
 rw[eX h0];refine pcd func49 rfl rfl ?_;simp only[go_sem];refine aA (fun hb=>absurd (by simpa using hb) h0) (fun hb=>?_);simp only[go_sem];refine⟨fun ρ H=>∃(k:Nat),k≤l.length∧ρ 0=.sl (l.map bL)∧ρ 4=int k∧ρ 3=str (aG ⟨#[44]⟩ ((l.take k).map fQ)),fun ρ _=>l.length-bO (ρ 4),⟨0,Xad _,by simp only[go_sem],(by simp only[go_sem];rfl),by simp only[go_sem];rfl⟩,?_⟩;rintro ρ H ⟨k,hk,e0,e4,e3⟩;simp only[go_sem,e0,e4,e3];refine aA (fun hlt=>?_) (fun hge=>?_)
 ·have hlt:=ltB hlt;obtain⟨a,ha⟩:=cG hlt;have b1:=inB hlt;have hj:=Xam (vR (s:=⟨#[44]⟩) (f:=fQ) (B:=43) l k fun n hn=>zK (hz n hn)) (show l.length*((⟨#[44]⟩:ByteArray).size+43)≤47000000 by show l.length*(1+43)≤_;omega);have hok:=hz a (aQ ha);have s1:=bT hok.1;have s2:=bT hok.2;have hst:=nH (s:=⟨#[44]⟩) (f:=fQ) ha;have hw:=cH k;simp only[go_sem,e0,e4,e3];refine aA (fun hb=>?_) (fun hb=>?_)
  ·have hk0:0<k:=by simpa using hb
   rw[if_pos hk0]at hst;simp only[go_sem,e0,e4,e3];refine⟨by rw[bA];first|omega|(simp only[ByteArray.size_append,List.size_toArray,Xaa,List.length_nil];omega),?_⟩;refine bX [(0,true),(1,true),(2,true),(3,true),(4,true),(5,true),(6,true),(7,true),(8,true),(9,true),(10,true),(11,true),(12,true),(13,true),(14,true),(15,true),(16,true)] (by kernel_rfl) ?_;simp only[go_sem,e0,e4,e3,aM ha,b1];refine⟨_,qd _ hok.1,?_⟩;simp only[go_sem,e0,e4,e3,aM ha,b1];refine⟨by rw[bA];first|omega|(simp only[ByteArray.size_append,List.size_toArray,Xaa,List.length_nil];omega),by rw[bA];first|omega|(simp only[ByteArray.size_append,List.size_toArray,Xaa,List.length_nil];omega),_,qd _ hok.2,?_⟩;simp only[go_sem,e0,e4,e3,hw];refine⟨by rw[bA];first|omega|(simp only[ByteArray.size_append,List.size_toArray,Xaa,List.length_nil];omega),⟨k+1,hlt,rfl,?_⟩,by simp only[aE];omega⟩;rw[hst];simp only[fQ,bQ]
  ·have hk0:k=0:=by simpa using hb
   rw[if_neg (by omega)]at hst;simp only[go_sem,e0,e4,e3];refine bX [(0,true),(1,true),(2,true),(3,true),(4,true),(5,true),(6,true),(7,true),(8,true),(9,true),(10,true),(11,true),(12,true),(13,true),(14,true),(15,true),(16,true)] (by kernel_rfl) ?_;simp only[go_sem,e0,e4,e3,aM ha,b1];refine⟨_,qd _ hok.1,?_⟩;simp only[go_sem,e0,e4,e3,aM ha,b1];refine⟨by rw[bA];first|omega|(simp only[ByteArray.size_append,List.size_toArray,Xaa,List.length_nil];omega),by rw[bA];first|omega|(simp only[ByteArray.size_append,List.size_toArray,Xaa,List.length_nil];omega),_,qd _ hok.2,?_⟩;simp only[go_sem,e0,e4,e3,hw];refine⟨by rw[bA];first|omega|(simp only[ByteArray.size_append,List.size_toArray,Xaa,List.length_nil];omega),⟨k+1,hlt,rfl,?_⟩,by simp only[aE];omega⟩;rw[hst];simp only[fQ,bQ]
 ·have hge:=geB hk hge;subst hge;simp only[go_sem,e0,e4,e3];rw[Xaj (Xae _)];exact .refl _
theorem If{P:Program}{C:jC}{PC:FuncId→List AV→aC→AV→Prop}{mt:Nat→Bool}{ops:List Oper}{K:Env→aC→Prop}{m:Nat}{ρ:Env}{H:aC}(l:List Nat)(t:Mx)(J:Env→aC→Prop)(hl:∀k,k∈l→(H k).isSome=true)(hB:zJ ops.toArray t=true)
 (h:∀K':Env→aC→Prop,(∀ρ' H',J ρ' H'→K' ρ' H')→∀Hp Hr:aC,(∀k,k∈l→Hp k=H k)→(∀k,k∉l→Hr k=H k)→(∀k,k∉l→Hp k=none)→(∀k,k∈l→Hr k=none)→jM P C PC mt ops.toArray (oQ l H K') Hp t ρ Hr)
 (hK:∀ρ' H',J ρ' H'→K ρ' H'):rY P C PC mt ops.toArray K m ρ H:=lO l t hl hB (h K hK)
theorem qn{H:aC}(l:List Int)(hl:l.length≤2000000)(h:∀n∈l,bH n):dE prog 48 [.sl (l.map D.aY)] H (str (cS spB (l.map aH))):=.inl ⟨_,.cons _ _ _ _ (.refl _) .nil,Er l hl h,rfl⟩
theorem gS{l:List Int}(hl:l.length≤20)(h:∀n∈l,bH n):(cS spB (l.map aH)).size≤440:=by
 have:=Ay (s:=spB) (f:=aH) (B:=21) l l.length fun n hn=>bT (h n hn)
 rw[Xaj (Xae _)]at this;have h1:spB.size=1:=rfl;rw[h1]at this;omega
theorem Md(t:VType)(h:OkType t):PC prog 50 [.agg (aX t)] (str (uD t)):=by
 have hl1:∀n∈[t.count,t.src,t.dst],bH n:=by
  intro n hn;simp only[Xaf,List.not_mem_nil,or_false]at hn;rcases hn with rfl|rfl|rfl
  ·exact h.count
  ·exact h.src
  ·exact h.dst
 have hl2:∀n∈[t.skills,t.profile,t.start,t.close,t.drive,t.rest,t.fixed,t.perMile,t.perTick],bH n:=by
  intro n hn;simp only[Xaf,List.not_mem_nil,or_false]at hn;rcases hn with rfl|rfl|rfl|rfl|rfl|rfl|rfl|rfl|rfl
  ·exact h.skills
  ·exact h.profile
  ·exact h.start
  ·exact h.close
  ·exact h.drive
  ·exact h.rest
  ·exact h.fixed
  ·exact h.perMile
  ·exact h.perTick
 have z0:=h.name;have z1:=gS (l:=[t.count,t.src,t.dst]) (by simp) hl1;have z2:=gS (l:=[t.skills,t.profile,t.start,t.close,t.drive,t.rest,t.fixed,t.perMile,t.perTick]) (by simp) hl2;simp only[Xak,Xao]at z1 z2;have z3:=nW h.cl h.cap;have hT:(⟨#[116,121,112,101,32]⟩:ByteArray)++t.name++cS spB [aH t.count,aH t.src,aH t.dst]++⟨#[32]⟩++iB t.cap++cS spB [aH t.skills,aH t.profile,aH t.start,aH t.close,aH t.drive,aH t.rest,aH t.fixed,aH t.perMile,aH t.perTick]++⟨#[10]⟩=uD t:=by rw[show(⟨#[116,121,112,101,32]⟩:ByteArray)=⟨#[116,121,112,101]⟩++spB from rfl];simp only[uD,nI,Xak,Xao,aZ,bS,cY,dP,bQ];rfl
 refine pcd func50 rfl rfl ?_;simp only[go_sem];refine If [] (.q 0 (.q 1 (.q 2 (.q 3 (.q 4 (.q 5 (.q 6 (.q 7 (.q 8 (.q 13 (.q 14 (.q 17 (.q 18 (.q 19 (.q 20 (.q 21 (.q 22 (.q 23 (.q 24 (.q 25 (.q 26 (.q 27 (.q 28 (.q 29 (.q 30 (.q 31 (.q 32 (.q 33 (.q 34 (.a2 9 (.q 10 (.q 11 (.q 12 (.q 15 (.q 16 (.a1 35 (.q 36 (.q 37 (.q 38 (.q 39 .nil)))))))))) 35 (.a1 9 (.q 10 (.q 11 (.q 12 (.q 15 (.q 16 (.q 36 (.q 37 (.q 38 (.q 39 .nil)))))))))))))))))))))))))))))))))))))))) (fun ρ' _=>ρ' 2=str (uD t)) (by simp) (by kernel_rfl) (fun K' hK' Hp Hr hp hr _ hr0=>?_) ?_
 ·simp only[go_sem];refine⟨by rw[bA];first|omega|(simp only[ByteArray.size_append,List.size_toArray,Xaa,List.length_nil];omega),?_,?_⟩
  ·simp only[go_sem];refine⟨_,qn [t.count,t.src,t.dst] (by simp) hl1,?_⟩;simp only[go_sem];refine⟨by rw[bA];first|omega|(simp only[ByteArray.size_append,List.size_toArray,Xaa,List.length_nil];omega),by rw[bA];first|omega|(simp only[ByteArray.size_append,List.size_toArray,Xaa,List.length_nil];omega),_,qi (xW t.cap (by have:=h.cl;omega) h.cap),?_⟩;simp only[go_sem];refine⟨by rw[bA];first|omega|(simp only[ByteArray.size_append,List.size_toArray,Xaa,List.length_nil];omega),_,qn [t.skills,t.profile,t.start,t.close,t.drive,t.rest,t.fixed,t.perMile,t.perTick] (by simp) hl2,?_⟩;simp only[go_sem];refine⟨by rw[bA];first|omega|(simp only[ByteArray.size_append,List.size_toArray,Xaa,List.length_nil];omega),by rw[bA];first|omega|(simp only[ByteArray.size_append,List.size_toArray,Xaa,List.length_nil];omega),?_⟩;refine cV fun _ Hm _ _=>hK' _ _ ?_
   simp only[go_sem];rw[hT]
  ·simp only[go_sem];refine⟨_,qn [t.count,t.src,t.dst] (by simp) hl1,?_⟩;simp only[go_sem];refine⟨by rw[bA];first|omega|(simp only[ByteArray.size_append,List.size_toArray,Xaa,List.length_nil];omega),by rw[bA];first|omega|(simp only[ByteArray.size_append,List.size_toArray,Xaa,List.length_nil];omega),_,qi (xW t.cap (by have:=h.cl;omega) h.cap),?_⟩;simp only[go_sem];refine⟨by rw[bA];first|omega|(simp only[ByteArray.size_append,List.size_toArray,Xaa,List.length_nil];omega),_,qn [t.skills,t.profile,t.start,t.close,t.drive,t.rest,t.fixed,t.perMile,t.perTick] (by simp) hl2,?_⟩;simp only[go_sem];refine⟨by rw[bA];first|omega|(simp only[ByteArray.size_append,List.size_toArray,Xaa,List.length_nil];omega),by rw[bA];first|omega|(simp only[ByteArray.size_append,List.size_toArray,Xaa,List.length_nil];omega),?_⟩;refine cV fun _ Hm _ _=>hK' _ _ ?_
   simp only[go_sem];rw[hT]
 ·intro ρ' H' e2;simp only[go_sem,e2];exact .refl _
theorem KA(o:Order)(h:OkOrder o):PC prog 51 [.agg (aB o)] (str (qV o)):=by
 have hl1:∀n∈[o.skills,o.penalty,o.split,o.last,o.now],bH n:=by
   intro n hn;simp only[Xaf,List.not_mem_nil,or_false]at hn;rcases hn with rfl|rfl|rfl|rfl|rfl
   · exact h.skills
   · exact h.penalty
   · exact h.split
   · exact h.last
   · exact h.now
 have z0:=h.name;have z1:=gS (l:=[o.skills,o.penalty,o.split,o.last,o.now]) (by simp) hl1;simp only[Xak,Xao]at z1;have z3:=nW h.ll h.load;have z4:=rE h.pick;have z5:=rE h.drop;have hT : ∀ e : ByteArray, (⟨#[111, 114, 100, 101, 114, 32]⟩ : ByteArray) ++ o.name ++ ⟨#[32]⟩ ++ iB o.load ++ ⟨#[32]⟩ ++ eQ o.pick ++ ⟨#[32]⟩ ++ eQ o.drop ++ cS spB [aH o.skills, aH o.penalty, aH o.split, aH o.last, aH o.now] ++ (spB ++ (e ++ nlB)) =
     nI [⟨#[111,114,100,101,114]⟩,o.name,iB o.load,eQ o.pick,eQ o.drop,aH o.skills,aH o.penalty,aH o.split,aH o.last,aH o.now,e]:=by
   intro e;rw[show(⟨#[111,114,100,101,114,32]⟩:ByteArray)=⟨#[111,114,100,101,114]⟩++spB from rfl];simp only[nI,Xak,Xao,aZ,bS,cY,dP,bQ];rfl
 refine pcd func51 rfl rfl ?_;simp only[go_sem];refine bX [(0,true),(1,true),(2,true),(3,true),(4,true),(5,true),(6,true),(7,true),(8,true),(9,true),(10,true),(11,true),(12,true),(13,true),(14,true),(15,true),(16,true),(17,true),(18,true),(19,true),(20,true),(21,true),(22,true),(23,true),(24,true),(25,true),(26,true),(27,true),(28,false),(29,true),(30,true),(31,true)] (by kernel_rfl) ?_;simp only[go_sem];refine⟨by rw[bA];first|omega|(simp only[ByteArray.size_append,List.size_toArray,Xaa,List.length_nil];omega),by rw[bA];first|omega|(simp only[ByteArray.size_append,List.size_toArray,Xaa,List.length_nil];omega),_,qi (xW o.load (by have:=h.ll;omega) h.load),?_⟩;simp only[go_sem];refine⟨by rw[bA];first|omega|(simp only[ByteArray.size_append,List.size_toArray,Xaa,List.length_nil];omega),by rw[bA];first|omega|(simp only[ByteArray.size_append,List.size_toArray,Xaa,List.length_nil];omega),_,qi (yK o.pick h.pick),?_⟩;simp only[go_sem];refine⟨by rw[bA];first|omega|(simp only[ByteArray.size_append,List.size_toArray,Xaa,List.length_nil];omega),by rw[bA];first|omega|(simp only[ByteArray.size_append,List.size_toArray,Xaa,List.length_nil];omega),_,qi (yK o.drop h.drop),?_⟩;simp only[go_sem];refine⟨by rw[bA];first|omega|(simp only[ByteArray.size_append,List.size_toArray,Xaa,List.length_nil];omega),_,qn [o.skills,o.penalty,o.split,o.last,o.now] (by simp) hl1,?_⟩;simp only[go_sem];refine⟨by rw[bA];first|omega|(simp only[ByteArray.size_append,List.size_toArray,Xaa,List.length_nil];omega),?_⟩;cases hoff:o.off with
 | true=>refine aA (fun _=>?_) (fun hb=>absurd hb (by simp));simp only[go_sem];refine⟨by rw[bA];first|omega|(simp only[ByteArray.size_append,List.size_toArray,Xaa,List.length_nil];omega),SN ?_⟩;rw[show(⟨#[32,111,102,102,10]⟩:ByteArray)=spB++(⟨#[111,102,102]⟩++nlB)from rfl,hT];unfold qV;rw[hoff];rfl
 | false=>refine aA (fun hb=>absurd hb (by simp)) (fun _=>?_);simp only[go_sem];refine⟨by rw[bA];first|omega|(simp only[ByteArray.size_append,List.size_toArray,Xaa,List.length_nil];omega),SN ?_⟩;rw[show(⟨#[32,111,110,10]⟩:ByteArray)=spB++(⟨#[111,110]⟩++nlB)from rfl,hT];unfold qV;rw[hoff];rfl
theorem Kc(x:Instance)(h:OkI x):PC prog 18 [.agg (aO x)] (.tup [str (iD x).1,int (iD x).2]):=by
 obtain⟨z1,z2,z3,z4,z5,z6⟩:=A6 x h;refine pcd func18 rfl rfl ?_;simp only[go_sem];refine bB (NC.pc (Lk x h.inB)) ?_;unfold iD;cases hc:iI x with
 | cons f r=>simp only[go_sem,Xak];refine aA (fun hb=>?_) (fun hb=>absurd hb (by simp));simp only[go_sem];refine lK (by rfl) (by kernel_rfl) ?_;simp only[go_sem,cE];exact⟨by omega,.refl _⟩
 | nil=>
 simp only[go_sem,Xao,List.length_nil];refine aA (fun hb=>absurd hb (by simp)) (fun hb=>?_);simp only[go_sem];refine⟨fun ρ H=>∃(k:Nat),k≤x.net.places.length∧ρ 1=.rp (aO x) 0∧ρ 6=int k∧ρ 5=str (gL ((x.net.places.take k).map vB)),fun ρ _=>x.net.places.length-bO (ρ 6),⟨0,Xad _,by simp only[go_sem],(by simp only[go_sem];rfl),by simp only[go_sem];rfl⟩,?_⟩;rintro ρ H ⟨k,hk,e1,e6,e5⟩;simp only[go_sem,e1,e6,e5];refine aA (fun hlt=>?_) (fun hge=>?_)
 ·have hlt:=ltB hlt;obtain⟨y,hy⟩:=cG hlt;have b1:=inB hlt;have hw:=fM (show k≤4611686018427387904 by have:=h.pl;omega);have hmy:=aQ hy;have hct:=lC (f:=vB) hy;have hsz:=Ag (f:=vB) h.pl (fun a ha=>fC (ws:=xI a) (by simp[xI]) (K5 (h.inB.place a ha))) k;have hL:∀p:ByteArray,p++⟨#[112,108,97,99,101,32]⟩++y++⟨#[10]⟩=p++vB y:=by intro p;rw[show(⟨#[112,108,97,99,101,32]⟩:ByteArray)=⟨#[112,108,97,99,101]⟩++spB from rfl];simp only[vB,nI,aZ,bS,cY,dP,bQ];rfl
  have hsy:=h.inB.place y hmy;simp only[go_sem,e1,e6,e5,aM hy,b1,hw];refine⟨by rw[bA];first|omega|(simp only[ByteArray.size_append,List.size_toArray,Xaa,List.length_nil];omega),by rw[bA];first|omega|(simp only[ByteArray.size_append,List.size_toArray,Xaa,List.length_nil];omega),by rw[bA];first|omega|(simp only[ByteArray.size_append,List.size_toArray,Xaa,List.length_nil];omega),⟨k+1,hlt,rfl,?_⟩,by simp only[aE];omega⟩;rw[hct,hL]
 have hge:=geB hk hge;subst hge;rw[Xaj (Xae _)]at e5;replace e5:ρ 5=str (Dr x):=e5;simp only[go_sem,e1,e5];refine⟨fun ρ H=>∃(k:Nat),k≤x.net.arcs.length∧ρ 1=.rp (aO x) 0∧ρ 7=int k∧ρ 5=str (Dr x++gL ((x.net.arcs.take k).map KC)),fun ρ _=>x.net.arcs.length-bO (ρ 7),⟨0,Xad _,by simp only[go_sem,e1,e5],(by simp only[go_sem,e1,e5];rfl),(by simp only[go_sem,e5,Xbe,Xao,gL,dP])⟩,?_⟩;rintro ρ H ⟨k,hk,e1,e7,e5⟩;simp only[go_sem,e1,e7,e5];refine aA (fun hlt=>?_) (fun hge=>?_)
 ·have hlt:=ltB hlt;obtain⟨y,hy⟩:=cG hlt;have b1:=inB hlt;have hw:=fM (show k≤4611686018427387904 by have:=h.al;omega);have hmy:=aQ hy;have hct:=lC (f:=KC) hy;have hsz:=Ag (f:=KC) h.al (fun a ha=>fC (ws:=M0 a) (by simp[M0]) (Nt (h.arc a ha))) k;have hoy:=h.arc y hmy;have hL:∀p:ByteArray,p++⟨#[97,114,99]⟩++cS spB [aH y.src,aH y.dst,aH y.profile,aH y.miles]++⟨#[32]⟩++eP y.travel++⟨#[32]⟩++eP y.slow++⟨#[10]⟩=p++KC y:=by intro p;simp only[KC,nI,aZ,bS,cY,dP,bQ];rfl
  have hl1:∀n∈[y.src,y.dst,y.profile,y.miles],bH n:=by
   intro n hn;simp only[Xaf,List.not_mem_nil,or_false]at hn;rcases hn with rfl|rfl|rfl|rfl
   ·exact hoy.src
   ·exact hoy.dst
   ·exact hoy.profile
   ·exact hoy.miles
  have y1:=gS (l:=[y.src,y.dst,y.profile,y.miles]) (by simp) hl1;simp only[Xak,Xao]at y1;have y2:=mT hoy.tl hoy.travel;have y3:=mT hoy.sl hoy.slow;simp only[go_sem,e1,e7,e5,aM hy,b1];refine cN fun p hp0=>?_
  simp only[go_sem,e1,e7,e5,hw];refine oL hp0 (by simp[eF]) fun HGp (Rp:HGp p=some (⟨107,6,[eF y]⟩)) N=>?_
  clear N hp0;simp only[go_sem,e1,e7,e5,hw,Rp];refine rM [p] [(0,true),(1,true),(2,true),(3,true),(4,true),(5,true),(6,true),(7,true),(8,true),(9,true),(14,true),(15,true),(19,true),(20,true),(10,false),(11,true),(12,true),(13,true),(16,true),(17,true),(18,true),(21,true),(22,true),(23,true),(24,true)] (by simp[Rp]) (by kernel_rfl) fun Hp Hr hp hr _ hr0=>?_
  have P_Rp:=(hp p (by simp)).trans Rp;simp only[go_sem,e1,e7,e5,P_Rp];refine⟨by rw[bA];first|omega|(simp only[ByteArray.size_append,List.size_toArray,Xaa,List.length_nil];omega),_,qn [y.src,y.dst,y.profile,y.miles] (by simp) hl1,?_⟩;simp only[go_sem,e1,e7,e5,P_Rp];refine⟨by rw[bA];first|omega|(simp only[ByteArray.size_append,List.size_toArray,Xaa,List.length_nil];omega),by rw[bA];first|omega|(simp only[ByteArray.size_append,List.size_toArray,Xaa,List.length_nil];omega),_,qi (zQ _ hoy.tl hoy.travel),?_⟩;simp only[go_sem,e1,e7,e5,P_Rp];refine⟨by rw[bA];first|omega|(simp only[ByteArray.size_append,List.size_toArray,Xaa,List.length_nil];omega),by rw[bA];first|omega|(simp only[ByteArray.size_append,List.size_toArray,Xaa,List.length_nil];omega),_,qi (zQ _ hoy.sl hoy.slow),?_⟩;simp only[go_sem,e1,e7,e5,P_Rp];refine⟨by rw[bA];first|omega|(simp only[ByteArray.size_append,List.size_toArray,Xaa,List.length_nil];omega),by rw[bA];first|omega|(simp only[ByteArray.size_append,List.size_toArray,Xaa,List.length_nil];omega),cV fun _ Hm _ _=>?_⟩;simp only[go_sem,e1,e7,e5,hw];refine⟨⟨k+1,hlt,rfl,?_⟩,by simp only[aE];omega⟩;rw[hct,←bQ,hL]
 have hge:=geB hk hge;subst hge;rw[Xaj (Xae _)]at e5;replace e5:ρ 5=str (Dg x):=e5;simp only[go_sem,e1,e5];refine⟨fun ρ H=>∃(k:Nat),k≤x.types.length∧ρ 1=.rp (aO x) 0∧ρ 9=int k∧ρ 5=str (Dg x++gL ((x.types.take k).map uD)),fun ρ _=>x.types.length-bO (ρ 9),⟨0,Xad _,by simp only[go_sem,e1,e5],(by simp only[go_sem,e1,e5];rfl),(by simp only[go_sem,e5,Xbe,Xao,gL,dP])⟩,?_⟩;rintro ρ H ⟨k,hk,e1,e9,e5⟩;simp only[go_sem,e1,e9,e5];refine aA (fun hlt=>?_) (fun hge=>?_)
 ·have hlt:=ltB hlt;obtain⟨y,hy⟩:=cG hlt;have b1:=inB hlt;have hw:=fM (show k≤4611686018427387904 by have:=h.tl;omega);have hmy:=aQ hy;have hct:=lC (f:=uD) hy;have hsz:=Ag (f:=uD) h.tl (fun a ha=>fC (ws:=yZ a) (by simp[yZ]) (Ff (h.type a ha))) k;have hoy:=h.type y hmy;have y1:=fC (ws:=yZ y) (by simp[yZ]) (Ff hoy);replace y1:(uD y).size≤2000000000:=y1;simp only[go_sem,e1,e9,e5,aM hy,b1];refine bB (Md y hoy) ?_;simp only[go_sem,e1,e9,e5,hw];refine⟨by rw[bA];first|omega|(simp only[ByteArray.size_append,List.size_toArray,Xaa,List.length_nil];omega),⟨k+1,hlt,rfl,?_⟩,by simp only[aE];omega⟩;rw[hct,←bQ]
 have hge:=geB hk hge;subst hge;rw[Xaj (Xae _)]at e5;replace e5:ρ 5=str (Dw x):=e5;simp only[go_sem,e1,e5];refine⟨fun ρ H=>∃(k:Nat),k≤x.orders.length∧ρ 1=.rp (aO x) 0∧ρ 10=int k∧ρ 5=str (Dw x++gL ((x.orders.take k).map qV)),fun ρ _=>x.orders.length-bO (ρ 10),⟨0,Xad _,by simp only[go_sem,e1,e5],(by simp only[go_sem,e1,e5];rfl),(by simp only[go_sem,e5,Xbe,Xao,gL,dP])⟩,?_⟩;rintro ρ H ⟨k,hk,e1,e10,e5⟩;simp only[go_sem,e1,e10,e5];refine aA (fun hlt=>?_) (fun hge=>?_)
 ·have hlt:=ltB hlt;obtain⟨y,hy⟩:=cG hlt;have b1:=inB hlt;have hw:=fM (show k≤4611686018427387904 by have:=h.ol;omega);have hmy:=aQ hy;have hct:=lC (f:=qV) hy;have hsz:=Ag (f:=qV) h.ol (fun a ha=>fC (ws:=sS a) (by simp[sS]) (AE (h.order a ha))) k;have hoy:=h.order y hmy;have y1:=fC (ws:=sS y) (by simp[sS]) (AE hoy);replace y1:(qV y).size≤2000000000:=y1;simp only[go_sem,e1,e10,e5,aM hy,b1];refine bB (KA y hoy) ?_;simp only[go_sem,e1,e10,e5,hw];refine⟨by rw[bA];first|omega|(simp only[ByteArray.size_append,List.size_toArray,Xaa,List.length_nil];omega),⟨k+1,hlt,rfl,?_⟩,by simp only[aE];omega⟩;rw[hct,←bQ]
 have hge:=geB hk hge;subst hge;rw[Xaj (Xae _)]at e5;replace e5:ρ 5=str (D8 x):=e5;simp only[go_sem,e1,e5];refine⟨fun ρ H=>∃(k:Nat),k≤x.apart.length∧ρ 1=.rp (aO x) 0∧ρ 11=int k∧ρ 5=str (D8 x++gL ((x.apart.take k).map uR)),fun ρ _=>x.apart.length-bO (ρ 11),⟨0,Xad _,by simp only[go_sem,e1,e5],(by simp only[go_sem,e1,e5];rfl),(by simp only[go_sem,e5,Xbe,Xao,gL,dP])⟩,?_⟩;rintro ρ H ⟨k,hk,e1,e11,e5⟩;simp only[go_sem,e1,e11,e5];refine aA (fun hlt=>?_) (fun hge=>?_)
 ·have hlt:=ltB hlt;obtain⟨y,hy⟩:=cG hlt;have b1:=inB hlt;have hw:=fM (show k≤4611686018427387904 by have:=h.ap;omega);have hmy:=aQ hy;have hct:=lC (f:=uR) hy;have hsz:=Ag (f:=uR) h.ap (fun a ha=>fC (ws:=yF a) (by simp[yF]) (HF (h.apart a ha))) k;have hoy:=h.apart y hmy;have hL:∀p:ByteArray,p++⟨#[97,112,97,114,116]⟩++cS spB [aH y.a,aH y.b]++⟨#[10]⟩=p++uR y:=by intro p;simp only[uR,nI,aZ,bS,cY,dP,bQ];rfl
  have hl1:∀n∈[y.a,y.b],bH n:=by
   intro n hn;simp only[Xaf,List.not_mem_nil,or_false]at hn;rcases hn with rfl|rfl
   ·exact hoy.1
   ·exact hoy.2
  have y1:=gS (l:=[y.a,y.b]) (by simp) hl1;simp only[Xak,Xao]at y1;simp only[go_sem,e1,e11,e5];refine bX [(0,true),(1,true),(2,true),(3,true),(4,true),(5,true),(6,true),(7,true),(8,true),(9,true),(10,true),(11,true),(12,true),(13,true),(14,false),(15,true),(16,true),(17,true),(18,true)] (by kernel_rfl) ?_;simp only[go_sem,e1,e11,e5,aM hy,b1];refine⟨by rw[bA];first|omega|(simp only[ByteArray.size_append,List.size_toArray,Xaa,List.length_nil];omega),by omega,by omega,_,qn [y.a,y.b] (by simp) hl1,?_⟩;simp only[go_sem,e1,e11,e5,hw];refine⟨by rw[bA];first|omega|(simp only[ByteArray.size_append,List.size_toArray,Xaa,List.length_nil];omega),by rw[bA];first|omega|(simp only[ByteArray.size_append,List.size_toArray,Xaa,List.length_nil];omega),⟨k+1,hlt,rfl,?_⟩,by simp only[aE];omega⟩;rw[hct,←bQ,hL]
 have hge:=geB hk hge;subst hge;rw[Xaj (Xae _)]at e5;replace e5:ρ 5=str (Dc x):=e5;simp only[go_sem,e1,e5];refine⟨fun ρ H=>∃(k:Nat),k≤x.before.length∧ρ 1=.rp (aO x) 0∧ρ 12=int k∧ρ 5=str (Dc x++gL ((x.before.take k).map qS)),fun ρ _=>x.before.length-bO (ρ 12),⟨0,Xad _,by simp only[go_sem,e1,e5],(by simp only[go_sem,e1,e5];rfl),(by simp only[go_sem,e5,Xbe,Xao,gL,dP])⟩,?_⟩;rintro ρ H ⟨k,hk,e1,e12,e5⟩;simp only[go_sem,e1,e12,e5];refine aA (fun hlt=>?_) (fun hge=>?_)
 ·have hlt:=ltB hlt;obtain⟨y,hy⟩:=cG hlt;have b1:=inB hlt;have hw:=fM (show k≤4611686018427387904 by have:=h.be;omega);have hmy:=aQ hy;have hct:=lC (f:=qS) hy;have hsz:=Ag (f:=qS) h.be (fun a ha=>fC (ws:=tQ a) (by simp[tQ]) (CY (h.before a ha))) k;have hoy:=h.before y hmy;have hL:∀p:ByteArray,p++⟨#[98,101,102,111,114,101]⟩++cS spB [aH y.a,aH y.b]++⟨#[10]⟩=p++qS y:=by intro p;simp only[qS,nI,aZ,bS,cY,dP,bQ];rfl
  have hl1:∀n∈[y.a,y.b],bH n:=by
   intro n hn;simp only[Xaf,List.not_mem_nil,or_false]at hn;rcases hn with rfl|rfl
   ·exact hoy.1
   ·exact hoy.2
  have y1:=gS (l:=[y.a,y.b]) (by simp) hl1;simp only[Xak,Xao]at y1;simp only[go_sem,e1,e12,e5];refine bX [(0,true),(1,true),(2,true),(3,true),(4,true),(5,true),(6,true),(7,true),(8,true),(9,true),(10,true),(11,true),(12,true),(13,true),(14,false),(15,true),(16,true),(17,true),(18,true)] (by kernel_rfl) ?_;simp only[go_sem,e1,e12,e5,aM hy,b1];refine⟨by rw[bA];first|omega|(simp only[ByteArray.size_append,List.size_toArray,Xaa,List.length_nil];omega),by omega,by omega,_,qn [y.a,y.b] (by simp) hl1,?_⟩;simp only[go_sem,e1,e12,e5,hw];refine⟨by rw[bA];first|omega|(simp only[ByteArray.size_append,List.size_toArray,Xaa,List.length_nil];omega),by rw[bA];first|omega|(simp only[ByteArray.size_append,List.size_toArray,Xaa,List.length_nil];omega),⟨k+1,hlt,rfl,?_⟩,by simp only[aE];omega⟩;rw[hct,←bQ,hL]
 have hge:=geB hk hge;subst hge;rw[Xaj (Xae _)]at e5;replace e5:ρ 5=str (zY x):=e5;simp only[go_sem,e1,e5];refine⟨by rw[bA];first|omega|(simp only[ByteArray.size_append,List.size_toArray,Xaa,List.length_nil];omega),?_⟩;have hE:(mC x).size=(zY x).size+4:=by unfold mC;rw[ByteArray.size_append];rfl
 have h4:(#[101,110,100,10]:Array UInt8).size=4:=rfl;rw[h4];refine aA (fun hb2=>?_) (fun hb2=>?_)
 ·have hb3:((zY x).size+4:Nat)>(65536:Int):=by simpa using hb2
  simp only[go_sem];rw[if_pos (by omega)];exact .refl _
 ·have hb3:¬((zY x).size+4:Nat)>(65536:Int):=by simpa using hb2
  simp only[go_sem,e5];rw[if_neg (by omega)];exact .refl _
end Sc
namespace Sc
open Go.Proofs.Tryz
open Go.RowKit (Below)
open Go.Proofs.YthbiheckeoknlaaGreatDoor
open Go.Proofs.YthbiheckeoknlaaGreatDoor.Nw (ltB geB cB)
def wG(s:Stop):Bool:=s.place == 0&&(s.start == 0&&(s.close == 0&&(s.service == 0&&true)))
def pJ(o:Order):Bool:=(o.name.toList == (⟨#[]⟩:ByteArray).toList)&&((o.load.length:Int) == 0)&&wG o.pick&&wG o.drop&&(o.skills == 0)&&(o.penalty == 0)&&(o.split == 0)&&(o.last == 0)&&(o.now == 0)&& !o.off
theorem E8(o:Order):PC prog 196 [.agg (aB o)] (boo (pJ o)):=by refine pcd func196 rfl rfl ?_;simp only[go_sem];exact .refl _
theorem qY(o:Order):PC prog 162 [.agg (aB o)] (boo (pJ o)):=by refine pcd func162 rfl rfl ?_;simp only[go_sem];exact .refl _
def aW(k:Int):ByteArray:=if k=1 then⟨#[111,114,100,101,114]⟩else if k=2 then⟨#[99,97,110,99,101,108]⟩else if k=3 then⟨#[100,101,108,97,121]⟩else if k=4 then⟨#[98,114,101,97,107]⟩else if k=5 then⟨#[115,104,105,102,116]⟩else⟨#[]⟩
theorem Ev(k:Int):PC prog 136 [int k] (str (aW k)):=by
 refine pcd func136 rfl rfl ?_;simp only[go_sem];refine cN fun j hj=>?_
 simp only[go_sem];refine fD (aD _ _ _) (by simp) ?_;have R:∀H q,bG H j q j=q:=fun H q=>aD _ _ _
 simp only[go_sem,R];refine aA (fun hb=>?_) (fun hb=>?_)
 ·simp only[go_sem];have hk:k<0∨6≤k:=by simpa using hb
  unfold aW;rw[if_neg (by omega),if_neg (by omega),if_neg (by omega),if_neg (by omega),if_neg (by omega)];exact .refl _
 ·have hk:¬(k<0∨6≤k):=by simpa using hb
  have hk:k=0∨k=1∨k=2∨k=3∨k=4∨k=5:=by omega
  clear hb;rcases hk with rfl|rfl|rfl|rfl|rfl|rfl <;> (simp only[go_sem,R];exact⟨by omega,.refl _⟩)
theorem Ef(k:Int):PC prog 102 [int k] (str (aW k)):=by
 refine pcd func102 rfl rfl ?_;simp only[go_sem];unfold aW;refine aA (fun hb=>?_) (fun hb=>?_)
 ·simp only[go_sem];rw[if_pos (by simpa using hb)];exact .refl _
 rw[if_neg (by simpa using hb)];simp only[go_sem];refine aA (fun hb=>?_) (fun hb=>?_)
 ·simp only[go_sem];rw[if_pos (by simpa using hb)];exact .refl _
 rw[if_neg (by simpa using hb)];simp only[go_sem];refine aA (fun hb=>?_) (fun hb=>?_)
 ·simp only[go_sem];rw[if_pos (by simpa using hb)];exact .refl _
 rw[if_neg (by simpa using hb)];simp only[go_sem];refine aA (fun hb=>?_) (fun hb=>?_)
 ·simp only[go_sem];rw[if_pos (by simpa using hb)];exact .refl _
 rw[if_neg (by simpa using hb)];simp only[go_sem];refine aA (fun hb=>?_) (fun hb=>?_)
 ·simp only[go_sem];rw[if_pos (by simpa using hb)];exact .refl _
 rw[if_neg (by simpa using hb)];simp only[go_sem];exact .refl _
def iQ(e:D.Event):Bool:=if e.kind=1 then(e.a == 0&&e.b == 0)&&e.n == 0 else if e.kind=3 then pJ e.order else if e.kind=5 then e.b == 0&&pJ e.order else(e.b == 0&&e.n == 0)&&pJ e.order
theorem gdB{H:aC}{f:FuncId}{a:AV}{c:Bool}(h:PC prog f [a] (boo c)):dE prog f [a] H (boo c):=.inl ⟨_,.cons _ _ _ _ (.refl _) .nil,h,rfl⟩
theorem OS(e:D.Event):PC prog 140 [.agg (bC e)] (boo (iQ e)):=by
 refine pcd func140 rfl rfl ?_;simp only[go_sem];unfold iQ;refine aA (fun hb=>?_) (fun hb=>?_)
 ·simp only[go_sem];rw[if_pos (by simpa using hb)];exact .refl _
 rw[if_neg (by simpa using hb)];simp only[go_sem];refine aA (fun hb=>?_) (fun hb=>?_)
 ·simp only[go_sem];rw[if_pos (by simpa using hb)];refine bB (E8 e.order) ?_;simp only[go_sem];exact .refl _
 rw[if_neg (by simpa using hb)];simp only[go_sem];refine aA (fun hb=>?_) (fun hb=>?_)
 ·simp only[go_sem];rw[if_pos (by simpa using hb)];refine⟨_,fun _=>gdB (E8 e.order),?_⟩;simp only[go_sem];exact .refl _
 rw[if_neg (by simpa using hb)];simp only[go_sem];refine⟨_,fun _=>gdB (E8 e.order),?_⟩;simp only[go_sem];exact .refl _
theorem KS(e:D.Event)(hk:1≤e.kind∧e.kind≤5):PC prog 101 [.agg (bC e)] (boo (iQ e)):=by
 have hk5:e.kind=1∨e.kind=2∨e.kind=3∨e.kind=4∨e.kind=5:=by omega
 refine pcd func101 rfl rfl ?_;simp only[go_sem];rcases hk5 with h|h|h|h|h <;> unfold iQ <;> simp only[h]
 ·refine aA (fun _=>?_) (fun hb=>absurd hb (by decide));simp only[go_sem];exact .refl _
 ·refine aA (fun hb=>absurd hb (by decide)) (fun _=>?_);simp only[go_sem];refine aA (fun _=>?_) (fun hb=>absurd hb (by decide));simp only[go_sem];refine aA (fun _=>?_) (fun hb=>absurd hb (by decide));simp only[go_sem];refine⟨_,fun _=>gdB (qY e.order),?_⟩;simp only[go_sem];exact .refl _
 ·refine aA (fun hb=>absurd hb (by decide)) (fun _=>?_);simp only[go_sem];refine aA (fun hb=>absurd hb (by decide)) (fun _=>?_);simp only[go_sem];refine aA (fun hb=>absurd hb (by decide)) (fun _=>?_);simp only[go_sem];refine aA (fun hb=>absurd hb (by decide)) (fun _=>?_);simp only[go_sem];refine bB (qY e.order) ?_;simp only[go_sem];exact .refl _
 ·refine aA (fun hb=>absurd hb (by decide)) (fun _=>?_);simp only[go_sem];refine aA (fun hb=>absurd hb (by decide)) (fun _=>?_);simp only[go_sem];refine aA (fun _=>?_) (fun hb=>absurd hb (by decide));simp only[go_sem];refine⟨_,fun _=>gdB (qY e.order),?_⟩;simp only[go_sem];exact .refl _
 ·refine aA (fun hb=>absurd hb (by decide)) (fun _=>?_);simp only[go_sem];refine aA (fun hb=>absurd hb (by decide)) (fun _=>?_);simp only[go_sem];refine aA (fun hb=>absurd hb (by decide)) (fun _=>?_);simp only[go_sem];refine aA (fun _=>?_) (fun hb=>absurd hb (by decide));simp only[go_sem];refine⟨_,fun _=>gdB (qY e.order),?_⟩;simp only[go_sem];exact .refl _
def gC(e:D.Event):List Int:=if e.kind=3 then[e.at_,e.a,e.b,e.n]else if e.kind=5 then[e.at_,e.a,e.n]else if e.kind=4 then[e.at_,e.a]else if e.kind=2 then[e.at_,e.a]else[e.at_]
def fZ(s:Stop):List Int:=[s.place,s.start,s.close,s.service]
def dU(o:Order):List Int:=(o.load.length:Int)::o.load++fZ o.pick++fZ o.drop++[o.skills,o.penalty,o.split,o.last,o.now]
theorem LW(s:Stop):PC prog 197 [.agg (dQ s)] (.sl ((fZ s).map D.aY)):=by refine pcd func197 rfl rfl ?_;simp only[go_sem];exact .refl _
theorem BI(s:Stop):PC prog 105 [.agg (dQ s)] (.sl ((fZ s).map D.aY)):=by refine pcd func105 rfl rfl ?_;simp only[go_sem];exact .refl _
abbrev gA(l:List Int):Row:=⟨3,1,l.map D.aY⟩
theorem lI(e:D.Event):PC prog 139 [.agg (bC e)] (.sl ((gC e).map D.aY)):=by
 refine pcb (fun t=>t == 6) func139 rfl rfl ?_;simp only[go_sem];refine aL fun i HGi hi0 (Ri:HGi i=some (gA [e.at_])) N=>?_
 clear N hi0;simp only[go_sem,Ri];unfold gC;have fin:∀(l:List Int) {H:aC} {j:Nat},H j=some ⟨3,1,[e.at_].map D.aY++l.map D.aY⟩→Conv H (.os j) (.sl ((e.at_::l).map D.aY)):=fun l H j h=>.row _ _ _ h (ConvE.refl _)
 refine aA (fun hb=>?_) (fun hb=>?_)
 ·simp only[go_sem,Ri];refine aP Ri ⟨rfl,rfl⟩ (by simp only[go_sem]) (by simp only[Xab,Xaa,List.length_nil];omega) fun j' hj'=>?_
  simp only[go_sem];rw[if_pos (by simpa using hb)];exact fin [e.a,e.b,e.n] (aD _ _ _)
 rw[if_neg (by simpa using hb)];simp only[go_sem,Ri];refine aA (fun hb=>?_) (fun hb=>?_)
 ·simp only[go_sem,Ri];refine aP Ri ⟨rfl,rfl⟩ (by simp only[go_sem]) (by simp only[Xab,Xaa,List.length_nil];omega) fun j' hj'=>?_
  simp only[go_sem];rw[if_pos (by simpa using hb)];exact fin [e.a,e.n] (aD _ _ _)
 rw[if_neg (by simpa using hb)];simp only[go_sem,Ri];refine aA (fun hb=>?_) (fun hb=>?_)
 ·simp only[go_sem,Ri];refine aP Ri ⟨rfl,rfl⟩ (by simp only[go_sem]) (by simp only[Xab,Xaa,List.length_nil];omega) fun j' hj'=>?_
  simp only[go_sem];rw[if_pos (by simpa using hb)];exact fin [e.a] (aD _ _ _)
 rw[if_neg (by simpa using hb)];simp only[go_sem,Ri];refine aA (fun hb=>?_) (fun hb=>?_)
 ·simp only[go_sem,Ri];refine aP Ri ⟨rfl,rfl⟩ (by simp only[go_sem]) (by simp only[Xab,Xaa,List.length_nil];omega) fun j' hj'=>?_
  simp only[go_sem];rw[if_pos (by simpa using hb)];exact fin [e.a] (aD _ _ _)
 rw[if_neg (by simpa using hb)];simp only[go_sem,Ri];exact .row _ _ _ Ri (ConvE.refl _)
theorem Kf(l:List Int):dF 1 (l.map D.aY):=fJ.2 fun c hc=>by obtain⟨x,_,rfl⟩:=Xat.1 hc;rfl
theorem O6(o:Order)(hl:o.load.length≤1048576):PC prog 141 [.agg (aB o)] (.sl ((dU o).map D.aY)):=by
 refine pcb (fun t=>t == 7) func141 rfl rfl ?_;simp only[go_sem];refine aL fun i HGi hi0 (Ri:HGi i=some (gA [(o.load.length:Int)])) N=>?_
 clear N hi0;simp only[go_sem,Ri];refine aP Ri ⟨rfl,rfl⟩ (Kf _) (by simp only[Xac,Xab,Xaa,List.length_nil,fZ];omega) fun j1 hj10=>?_
 generalize hP:bG (bG _ i none) j1 _=HP;have R1:HP j1=some (⟨3,1,[(o.load.length:Int)].map D.aY++o.load.map D.aY⟩):=upS hP;clear hP hj10;simp only[go_sem,R1];refine bB (LW o.pick) ?_;simp only[go_sem,R1];refine aP R1 ⟨rfl,rfl⟩ (Kf _) (by simp only[Xac,Xab,Xaa,List.length_nil,fZ];omega) fun j2 hj20=>?_
 generalize hP:bG (bG _ j1 none) j2 _=HP;have R2:HP j2=some (⟨3,1,[(o.load.length:Int)].map D.aY++o.load.map D.aY++(fZ o.pick).map D.aY⟩):=upS hP;clear hP hj20;simp only[go_sem,R2];refine bB (LW o.drop) ?_;simp only[go_sem,R2];refine aP R2 ⟨rfl,rfl⟩ (Kf _) (by simp only[Xac,Xab,Xaa,List.length_nil,fZ];omega) fun j3 hj30=>?_
 generalize hP:bG (bG _ j2 none) j3 _=HP;have R3:HP j3=some (⟨3,1,[(o.load.length:Int)].map D.aY++o.load.map D.aY++(fZ o.pick).map D.aY++(fZ o.drop).map D.aY⟩):=upS hP;clear hP hj30;simp only[go_sem,R3];refine aP R3 ⟨rfl,rfl⟩ (by simp only[go_sem]) (by simp only[Xac,Xab,Xaa,List.length_nil,fZ];omega) fun j4 hj40=>?_
 simp only[go_sem];rw[show(dU o).map D.aY=[(o.load.length:Int)].map D.aY++o.load.map D.aY++(fZ o.pick).map D.aY++(fZ o.drop).map D.aY++[o.skills,o.penalty,o.split,o.last,o.now].map D.aY from by simp[dU]];exact .row _ _ _ (aD _ _ _) (ConvE.refl _)
structure OkE(e:D.Event):Prop where
 at_:bH e.at_
 a:bH e.a
 b:bH e.b
 n:bH e.n
 order:OkOrder e.order
theorem pS{e:D.Event}(h:OkE e):(∀n∈gC e,bH n)∧(gC e).length≤4:=by
 unfold gC;have h1:=h.at_;have h2:=h.a;have h3:=h.b;have h4:=h.n;split
 ·exact⟨by simp[h1,h2,h3,h4],by simp⟩
 split
 ·exact⟨by simp[h1,h2,h4],by simp⟩
 split
 ·exact⟨by simp[h1,h2],by simp⟩
 split
 ·exact⟨by simp[h1,h2],by simp⟩
 ·exact⟨by simp[h1],by simp⟩
theorem iN{o:Order}(h:OkOrder o)(h3:o.load.length≤3):(∀n∈dU o,bH n)∧(dU o).length≤17:=by
 refine⟨fun n hn=>?_,by simp[dU,fZ];omega⟩;simp only[dU,fZ,Xap,Xaf,List.not_mem_nil,or_false]at hn;rcases hn with(((rfl|hn)|rfl|rfl|rfl|rfl)|rfl|rfl|rfl|rfl)|rfl|rfl|rfl|rfl|rfl
 ·exact⟨by omega,by omega⟩
 ·exact h.load n hn
 ·exact h.pick.1
 ·exact h.pick.2.1
 ·exact h.pick.2.2.1
 ·exact h.pick.2.2.2
 ·exact h.drop.1
 ·exact h.drop.2.1
 ·exact h.drop.2.2.1
 ·exact h.drop.2.2.2
 ·exact h.skills
 ·exact h.penalty
 ·exact h.split
 ·exact h.last
 ·exact h.now
def gK(e:D.Event):List ByteArray:=aW e.kind::(gC e).map aH
def kP(e:D.Event):List ByteArray:=gK e++e.order.name::(dU e.order).map aH
def evR(e:D.Event):ByteArray×Int:=
 if e.kind<1∨5<e.kind then(⟨#[]⟩,8)else if iQ e=false then(⟨#[]⟩,2)
 else if e.kind=1 then(if e.order.off=true then(⟨#[]⟩,9)else if dM e.order.name=false then(⟨#[]⟩,5)else if 3<e.order.load.length then(⟨#[]⟩,4)else(aG spB (kP e),0))
 else(aG spB (gK e),0)
theorem AC(k:Int):(aW k).size≤6:=by
 unfold aW
 repeat' split
 all_goals decide
theorem JN{k:Int}:((aW k).toList == (⟨#[]⟩:ByteArray).toList)=decide (k<1∨5<k):=by
 by_cases h:k<1∨5<k
 ·rw[decide_eq_true h];unfold aW;rw[if_neg (by omega),if_neg (by omega),if_neg (by omega),if_neg (by omega),if_neg (by omega)];decide +kernel
 ·rw[decide_eq_false h];have hk:k=1∨k=2∨k=3∨k=4∨k=5:=by omega
  rcases hk with rfl|rfl|rfl|rfl|rfl <;> decide +kernel
theorem sG{e:D.Event}(h:OkE e):∀a∈gK e,a.size≤1048576:=by
 intro a ha;rcases Xaf.1 ha with rfl|ha
 ·exact Xam (AC _) (by decide)
 ·obtain⟨n,hn,rfl⟩:=Xat.1 ha;exact Xam (bT ((pS h).1 n hn)) (by decide)
theorem zX{e:D.Event}(h:OkE e)(h3:e.order.load.length≤3):∀a∈kP e,a.size≤1048576:=by
 intro a ha;rcases Xap.1 ha with ha|ha
 ·exact sG h a ha
 rcases Xaf.1 ha with rfl|ha
 ·exact h.order.name
 ·obtain⟨n,hn,rfl⟩:=Xat.1 ha;exact Xam (bT ((iN h.order h3).1 n hn)) (by decide)
theorem vC{e:D.Event}(h:OkE e):(gK e).length≤5:=by have:=(pS h).2;simp only[gK,Xaa,Xab];omega
theorem BL{e:D.Event}(h:OkE e)(h3:e.order.load.length≤3):(kP e).length≤23:=by have:=(iN h.order h3).2;have:=vC h;simp only[kP,Xac,Xaa,Xab];omega
theorem Hv(e:D.Event)(h:OkE e):PC prog 78 [.agg (bC e)] (.tup [str (evR e).1,int (evR e).2]):=by
 have hn1:=sG h;have hn2:=vC h;refine pcb (fun t=>t == 22) func78 rfl rfl ?_;simp only[go_sem];refine bB (Ev e.kind) ?_;simp only[go_sem];rw[JN];unfold evR;refine aA (fun hb=>?_) (fun hb=>?_)
 ·simp only[go_sem];rw[if_pos (by simpa using hb)];exact .refl _
 rw[if_neg (by simpa using hb)];simp only[go_sem];refine bB (OS e) ?_;simp only[go_sem];refine aA (fun hb=>?_) (fun hb=>?_)
 ·simp only[go_sem];rw[if_pos (by simpa using hb)];exact .refl _
 rw[if_neg (by simpa using hb)];simp only[go_sem];refine aL fun i HGi hi0 (Ri:HGi i=some (cA [aW e.kind])) N=>?_
 clear N hi0;simp only[go_sem,Ri];refine bB (lI e) ?_;simp only[go_sem,Ri,Xab];refine⟨fun ρ H=>∃(k:Nat) (i:Nat),k≤(gC e).length∧ρ 1=.rp (bC e) 0∧ρ 24=.sl ((gC e).map D.aY)∧ρ 25=int ((gC e).length:Nat)∧ρ 26=int k∧ρ 5=.os i∧H i=some (cA (aW e.kind::((gC e).take k).map aH)),fun ρ _=>(gC e).length-bO (ρ 26),⟨0,i,Xad _,by simp only[go_sem],by simp only[go_sem],by simp only[go_sem,Xab],(by simp only[go_sem];rfl),by simp only[go_sem],Ri⟩,?_⟩;rintro ρ H ⟨k,i,hk,e1,e24,e25,e26,e5,Ri⟩;simp only[go_sem,e1,e24,e25,e26,e5];refine aA (fun hlt=>?_) (fun hge=>?_)
 ·have hlt:=ltB hlt;obtain⟨n,hn⟩:=cG hlt;have b1:=inB hlt;have hwr:=fM (show k≤4611686018427387904 by have:=(pS h).2;omega);have hst:((gC e).take (k+1)).map aH=((gC e).take k).map aH++[aH n]:=by rw[fL hn];simp
  simp only[go_sem,e1,e24,e25,e26,e5,aM hn,b1];refine bB (iZ n ((pS h).1 n (aQ hn))) ?_;simp only[go_sem,e1,e24,e25,e26,e5];refine aP Ri ⟨rfl,rfl⟩ (by simp only[go_sem]) (by have:=(pS h).2;simp only[Xab,Xaa,List.length_nil,Xas];omega) fun j' hj'=>?_
  simp only[go_sem,e1,e24,e25,e26,e5,hwr];refine⟨⟨k+1,j',hlt,rfl,rfl,(aD _ _ _).trans ?_⟩,by simp only[aE];omega⟩;rw[hst];simp only[cA,Xal,Xak,Xav];rfl
 have hge:=geB hk hge;have hk4:=(pS h).2;subst hge;rw[Xaj (Xae _)]at Ri;replace Ri:H i=some (cA (gK e)):=Ri;simp only[go_sem,e1,e24,e25,e26,e5];refine aA (fun hb=>?_) (fun hb=>?_)
 ·rw[if_pos (by simpa using hb)];simp only[go_sem,e1,e24,e25,e26,e5,Ri];refine cN fun p hp0=>?_
  simp only[go_sem,e1,e24,e25,e26,e5,Ri];refine oL hp0 (by simp[aB]) fun HGp (Rp:HGp p=some (⟨64,16,[aB e.order]⟩)) N=>?_
  replace Ri:=N Ri;obtain⟨ne_i_p,Ri⟩:=Ri;clear N hp0;simp only[go_sem,e1,e24,e25,e26,e5,Rp,Ri];refine aA (fun hb1=>?_) (fun hb1=>?_)
  ·simp only[go_sem];rw[if_pos hb1];exact .refl _
  rw[if_neg (by rw[hb1];simp)];simp only[go_sem,e1,e24,e25,e26,e5,Rp,Ri];refine bB (Nw.oU e.order.name h.order.name) ?_;simp only[go_sem,e1,e24,e25,e26,e5,Rp,Ri];refine aA (fun hb2=>?_) (fun hb2=>?_)
  ·simp only[go_sem];rw[if_pos (by simpa using hb2)];exact .refl _
  rw[if_neg (by simpa using hb2)];simp only[go_sem,e1,e24,e25,e26,e5,Rp,Ri,Xab];refine aA (fun hb3=>?_) (fun hb3=>?_)
  ·simp only[go_sem];have h3:((e.order.load.length:Nat):Int)>3:=by simpa using hb3
   rw[if_pos (by omega)];exact .refl _
  have h3:¬((e.order.load.length:Nat):Int)>3:=by simpa using hb3
  rw[if_neg (by omega)];replace h3:e.order.load.length≤3:=by omega
  simp only[go_sem,e1,e24,e25,e26,e5,Rp,Ri];refine aP Ri ⟨rfl,rfl⟩ (by simp only[go_sem]) (by simp only[Xab,Xaa,List.length_nil];omega) fun i2 hi20=>?_
  have Ri2:bG (bG HGp i none) i2 (some ⟨9,1,(gK e).map D.bE++[[str e.order.name]]⟩) i2=some (cA (gK e++[e.order.name])):=by rw[aD];simp only[cA,Xal];rfl
  generalize bG (bG HGp i none) i2 _=H2 at *;simp only[go_sem,e1,e24,e25,e26,e5];refine bB (O6 e.order h.order.ll) ?_;simp only[go_sem,Ri2,Xab];clear e5 e24 e25 e26 Ri;refine⟨fun ρ H=>∃(k:Nat) (i:Nat),k≤(dU e.order).length∧ρ 62=.sl ((dU e.order).map D.aY)∧ρ 63=int ((dU e.order).length:Nat)∧ρ 64=int k∧ρ 5=.os i∧H i=some (cA (gK e++e.order.name::((dU e.order).take k).map aH)),fun ρ _=>(dU e.order).length-bO (ρ 64),⟨0,i2,Xad _,by simp only[go_sem],by simp only[go_sem,Xab],(by simp only[go_sem];rfl),by simp only[go_sem],Ri2⟩,?_⟩;rintro ρ H ⟨k,i,hk,e62,e63,e64,e5,Ri⟩;simp only[go_sem,e62,e63,e64,e5];refine aA (fun hlt=>?_) (fun hge=>?_)
  ·have hlt:=ltB hlt;obtain⟨n,hn⟩:=cG hlt;have b1:=inB hlt;have hwr:=fM (show k≤4611686018427387904 by have:=(iN h.order h3).2;omega);have hst:((dU e.order).take (k+1)).map aH=((dU e.order).take k).map aH++[aH n]:=by rw[fL hn];simp
   simp only[go_sem,e62,e63,e64,e5,aM hn,b1];refine bB (iZ n ((iN h.order h3).1 n (aQ hn))) ?_;simp only[go_sem,e62,e63,e64,e5];refine aP Ri ⟨rfl,rfl⟩ (by simp only[go_sem]) (by have:=(iN h.order h3).2;simp only[Xab,Xac,Xaa,List.length_nil,Xas];omega) fun j' hj'=>?_
   simp only[go_sem,e62,e63,e64,e5,hwr];refine⟨⟨k+1,j',hlt,rfl,rfl,(aD _ _ _).trans ?_⟩,by simp only[aE];omega⟩;rw[hst];simp only[cA,Xal,Xak,Xav,Xar];rfl
  have hge:=geB hk hge;subst hge;rw[Xaj (Xae _)]at Ri;replace Ri:H i=some (cA (kP e)):=Ri;simp only[go_sem,e62,e63,e64,e5];have hl:=BL h h3;refine pH.use ⟨[.sl ((kP e).map D.bE)],.cons _ _ _ _ (.row _ _ _ Ri (ConvE.refl _)) .nil,Ak _ (by omega) ?_,rfl⟩ ?_
  ·refine Xam (kY (s:=spB) (kP e) (zX h h3)) ?_;show(kP e).length*(1+1048576)≤_;omega
  ·simp only[go_sem];exact .refl _
 ·rw[if_neg (by simpa using hb)];simp only[go_sem,e5];refine pH.use ⟨[.sl ((gK e).map D.bE)],.cons _ _ _ _ (.row _ _ _ Ri (ConvE.refl _)) .nil,Ak _ (by omega) ?_,rfl⟩ ?_
  ·refine Xam (kY (s:=spB) (gK e) hn1) ?_;show(gK e).length*(1+1048576)≤_;omega
  ·simp only[go_sem];exact .refl _
end Sc
namespace Sk
open Go.Proofs.YthbiheckeoknlaaGreatDoor
open Go.Proofs.YthbiheckeoknlaaGreatDoor.Nw (ltB geB cB)
open Go.Proofs.YthbiheckeoknlaaGreatDoor.Sc
inductive Item where
 | place (s:ByteArray)
 | arc (a:Arc)
 | type (t:VType)
 | order (o:Order)
 | apart (p:Pair)
 | before (p:Pair)
 | fin
def Item.rank:Item→Nat
 | .place _=>0
 | .arc _=>1
 | .type _=>2
 | .order _=>3
 | .apart _=>4
 | .before _=>5
 | .fin=>6
theorem Item.rank_lt(i:Item):i.rank<7:=by cases i <;> simp only[Item.rank] <;> decide
def Item.words:Item→List ByteArray
 | .place s=>[s]
 | .arc a=>[aH a.src,aH a.dst,aH a.profile,aH a.miles,eP a.travel,eP a.slow]
 | .type t=>[t.name,aH t.count,aH t.src,aH t.dst,iB t.cap,aH t.skills,aH t.profile,aH t.start,aH t.close,aH t.drive,aH t.rest,aH t.fixed,aH t.perMile,aH t.perTick]
 | .order o=>[o.name,iB o.load,eQ o.pick,eQ o.drop,aH o.skills,aH o.penalty,aH o.split,aH o.last,aH o.now,onS o.off]
 | .apart p=>[aH p.a,aH p.b]
 | .before p=>[aH p.a,aH p.b]
 | .fin=>[]
def Item.word(i:Item):ByteArray:=eJ.getD i.rank ⟨#[]⟩
def eH(x:Instance):Item→Instance
 | .place s=>{ x with net:={ x.net with places:=x.net.places++[s] } }
 | .arc a=>{ x with net:={ x.net with arcs:=x.net.arcs++[a] } }
 | .type t=>{ x with types:=x.types++[t] }
 | .order o=>{ x with orders:=x.orders++[o] }
 | .apart p=>{ x with apart:=x.apart++[p] }
 | .before p=>{ x with before:=x.before++[p] }
 | .fin=>x
def qD:Item→Prop
 | .place s=>aW s=true
 | .arc a=>OkArc a
 | .type t=>OkType t∧aW t.name=true
 | .order o=>OkOrder o∧aW o.name=true
 | .apart p=>kZ p
 | .before p=>kZ p
 | .fin=>True
abbrev eD(l:List Arc):Row:=⟨107,6,l.map eF⟩
abbrev gE(l:List VType):Row:=⟨112,14,l.map aX⟩
abbrev gF(l:List Order):Row:=⟨64,16,l.map aB⟩
abbrev eN(l:List Pair):Row:=⟨114,2,l.map bP⟩
def dC(x:Instance):Nat→Row
 | 0=>cA x.net.places
 | 1=>eD x.net.arcs
 | 2=>gE x.types
 | 3=>gF x.orders
 | 4=>eN x.apart
 | _=>eN x.before
abbrev nL(n:Nat→Nat):Row:=⟨31,6,[[.os (n 0),.os (n 1),.os (n 2),.os (n 3),.os (n 4),.os (n 5)]]⟩
structure IH(H:aC)(b:Nat)(n:Nat→Nat)(x:Instance):Prop where
 row:H b=some (nL n)
 d:∀i<6,H (n i)=some (dC x i)
 nb:∀i<6,n i≠b
 nn:∀i<6,∀j<6,i≠j→n i≠n j
def Off(b:Nat)(n:Nat→Nat)(k:Nat):Prop:=k≠b∧∀i<6,k≠n i
structure Small(x:Instance):Prop where
 pl:x.net.places.length≤1000
 al:x.net.arcs.length≤1000
 tl:x.types.length≤1000
 ol:x.orders.length≤1000
 ap:x.apart.length≤1000
 be:x.before.length≤1000
def RF(b:Nat)(n n':Nat→Nat)(H H':aC):Prop:=∀k row,Off b n k→H k=some row→H' k=some row∧Off b n' k
section
variable{H G G':aC}{b c:Nat}{n:Nat→Nat}{x y:Instance}
theorem IH.fr(I:IH H b n x)(F:Fr c H G)(hc:Off b n c):IH G b n x:=
 ⟨F _ _ hc.1.symm I.row,fun i hi=>F _ _ (hc.2 i hi).symm (I.d i hi),I.nb,I.nn⟩
theorem IH.new(I:IH H b n x){j:Nat}(N:∀{k a},H k=some a→k≠j∧G k=some a):IH G b n x∧Off b n j:=
 ⟨⟨(N I.row).2,fun i hi=>(N (I.d i hi)).2,I.nb,I.nn⟩,(N I.row).1.symm,fun i hi=>(N (I.d i hi)).1.symm⟩
def Cx(n:Nat→Nat)(j j':Nat):Nat→Nat:=fun i=>if i=j then j' else n i
theorem pV(n:Nat→Nat)(j j':Nat):Cx n j j' j=j':=if_pos rfl
theorem qN(n:Nat→Nat){i j:Nat}(j':Nat)(h:i≠j):Cx n j j' i=n i:=if_neg h
theorem IH.step{j j':Nat}(I:IH H b n x)(hj:j<6)(h1:G j'=some (dC y j))(hG:∀k row,k≠n j→H k=some row→k≠j'∧G k=some row)
  (hy:∀i<6,i≠j→dC y i=dC x i) (B:G' b=some (nL (Cx n j j'))) (F:Fr b G G'):IH G' b (Cx n j j') y:=by
 have ob:=hG b _ (I.nb j hj).symm I.row;refine⟨B,fun i hi=>?_,fun i hi=>?_,fun i hi k hk hne=>?_⟩
 ·by_cases e:i=j
  ·subst e;rw[pV];exact F _ _ ob.1.symm h1
  ·rw[qN n j' e,hy i hi e];exact F _ _ (I.nb i hi) (hG _ _ (I.nn i hi j hj e) (I.d i hi)).2
 ·by_cases e:i=j
  ·subst e;rw[pV];exact ob.1.symm
  ·rw[qN n j' e];exact I.nb i hi
 ·by_cases e:i=j
  ·subst e;rw[pV,qN n j' (Ne.symm hne)];exact(hG _ _ (I.nn k hk i hi (Ne.symm hne)) (I.d k hk)).1.symm
  ·by_cases e2:k=j
   ·subst e2;rw[pV,qN n j' hne];exact(hG _ _ (I.nn i hi k hk hne) (I.d i hi)).1
   ·rw[qN n j' e,qN n j' e2];exact I.nn i hi k hk hne
theorem CU{j j':Nat}{x:Instance}(hj:j<6)(hG:∀k row,k≠n j→H k=some row→k≠j'∧G k=some row)(F:Fr b G G'):RF b n (Cx n j j') H G':=fun k row o h=>by
 have h2:=hG k row (o.2 j hj) h;refine⟨F _ _ o.1 h2.2,o.1,fun i hi=>?_⟩;by_cases e:i=j
 ·subst e;rw[pV];exact h2.1
 ·rw[qN n j' e];exact o.2 i hi
end
theorem mF{it:Item}(h:qD it):∀w∈it.word::it.words,aW w=true:=by
 intro w hw;rcases Xaf.1 hw with rfl|hw
 ·exact(by decide:∀i<7,aW (eJ.getD i ⟨#[]⟩)=true) _ it.rank_lt
 cases it <;> simp only[Item.words,Xaf,List.not_mem_nil,or_false]at hw
 ·subst hw;exact h
 ·rcases hw with rfl|rfl|rfl|rfl|rfl|rfl <;> first|exact eI _|exact wR _
 ·rcases hw with rfl|rfl|rfl|rfl|rfl|rfl|rfl|rfl|rfl|rfl|rfl|rfl|rfl|rfl <;> first|exact eI _|exact uW _|exact h.2
 ·rcases hw with rfl|rfl|rfl|rfl|rfl|rfl|rfl|rfl|rfl|rfl <;> first|exact eI _|exact uW _|exact AF _|exact Ip _|exact h.2
 ·rcases hw with rfl|rfl <;> exact eI _
 ·rcases hw with rfl|rfl <;> exact eI _
end Sk
namespace Sp
open Go.Proofs.Tryz
open Go.Proofs.YthbiheckeoknlaaGreatDoor (cP fG)
open Go.Proofs.YthbiheckeoknlaaGreatDoor.Nw (ltB geB cB eT cB)
open Go.Proofs.YthbiheckeoknlaaGreatDoor.Sk
open Go.Proofs.YthbiheckeoknlaaGreatDoor.Sc hiding aW
open Go.RowKit (Below)
theorem fP{s t:ByteArray}(h:(s.toList == t.toList)=true):s=t:=by have:=eq_of_beq h;rw[Lib.toList_data,Lib.toList_data]at this;exact gD this
theorem pE{c:UInt8}{ps:List ByteArray}(hps:ps≠[])(hno:∀p∈ps,c∉p.data.toList)(hs:(aG ⟨#[c]⟩ ps).size≤1048575):PC prog 39 [str (aG ⟨#[c]⟩ ps),.v (.int .u8 c.toNat)] (.sl (ps.map D.bE)):=by
 generalize hj:aG ⟨#[c]⟩ ps=s at hs ⊢;refine pcb (fun t=>t == 5) func39 rfl rfl ?_;simp only[go_sem];refine aL fun i HGi hi0 (Ri:HGi i=some (cA [])) N=>?_
 clear N hi0;simp only[go_sem,Ri];refine⟨fun ρ H=>∃(i k a:Nat) (l:List ByteArray),ρ 0=str s∧ρ 1=.v (.int .u8 c.toNat)∧ρ 5=.os i∧H i=some (cA l)∧ρ 6=int a∧ρ 7=int k∧l.length≤k∧(∀p∈l,c∉p.data.toList)∧((a≤k∧k≤s.size∧s=aG ⟨#[c]⟩ (l++[s.extract a s.size])∧c∉bs (s.extract a k))∨(k=s.size+1∧l=ps)),fun ρ _=>s.size+1-bO (ρ 7),⟨i,0,0,[],by simp only[go_sem],by simp only[go_sem],by simp only[go_sem],Ri,(by simp only[go_sem];rfl),(by simp only[go_sem];rfl),Xad _,by simp,.inl ⟨Xae _,Xad _,by rw[Xaz,aZ,cY,dP];simp,by simp[eY]⟩⟩,?_⟩;clear Ri;rintro ρ H ⟨i,k,a,l,e0,e1,e5,Ri,e6,e7,hl,hp,hc⟩;simp only[go_sem,e0,e1,e5,e6,e7];refine aA (fun hb=>?_) (fun hb=>?_)
 ·have hle : k ≤ s.size := by have:=of_decide_eq_true hb;omega
  obtain⟨h1,_,h3,h4⟩:a≤k∧k≤s.size∧s=aG ⟨#[c]⟩ (l++[s.extract a s.size])∧c∉bs (s.extract a k):=by
   rcases hc with hc|⟨h,_⟩
   ·exact hc
   ·omega
  have hp':∀p∈l++[s.extract a k],c∉p.data.toList:=fun p hp2=>by
   rcases Xap.1 hp2 with h|h
   ·exact hp p h
   ·rw[Xbb.1 h];exact h4
  simp only[go_sem,e0,e1,e5,e6,e7];refine⟨fun hg=>?_,aA (fun hb=>?_) (fun hb=>?_)⟩
  ·have:¬((k:Int)=(s.size:Int)):=by simpa using hg
   omega
  ·simp only[go_sem,e0,e1,e5,e6,e7];refine⟨⟨by omega,by omega,by omega⟩,aP Ri ⟨rfl,rfl⟩ (by simp only[go_sem]) (by simp only[Xab,Xaa,List.length_nil];omega) fun j' hj'=>?_⟩;simp only[go_sem,e0,e1,e5,e6,e7,cH k];refine⟨⟨j',k+1,k+1,l++[s.extract a k],rfl,by rw[aD,cA,Xal];rfl,rfl,rfl,by simp only[Xac,Xaa,List.length_nil];omega,hp',?_⟩,by simp only[aE];omega⟩;by_cases hks:k=s.size
   ·subst hks;exact .inr ⟨rfl,jF (by simp) hps hp' hno (h3.symm.trans hj.symm)⟩
   ·have hlt:k<s.size:=by omega
    have hkc:s.data.getD k 0=c:=by
     rcases Bool.or_eq_true_iff.1 hb with h|h
     ·have:=eq_of_beq h;omega
     ·exact UInt8.toNat_inj.1 (by have:=eq_of_beq h;omega)
    refine .inl ⟨Xae _,hlt,?_,?_⟩
    ·rw[Xar,List.singleton_append,←uV];refine h3.trans ?_
     congr 3
     exact LX h1 hlt hkc
    ·rw[eY,Nat.sub_self];simp
  ·have hks:k≠s.size:=fun e=>by rw[e]at hb;simp at hb
   have hlt:k<s.size:=by omega
   have hkc:s.data.getD k 0≠c:=fun e=>by rw[e]at hb;simp at hb
   simp only[go_sem,e0,e1,e5,e6,e7,cH k];refine⟨⟨i,k+1,a,l,rfl,Ri,rfl,rfl,by omega,hp,.inl ⟨by omega,hlt,h3,fun hm=>?_⟩⟩,by simp only[aE];omega⟩;rw[eY,show k+1-a=(k-a)+1 by omega,List.take_add_one,Xap]at hm;rcases hm with hm|hm
   ·rw[eY]at h4;exact h4 hm
   ·rw[List.getElem?_drop,show a+(k-a)=k by omega,Option.mem_toList]at hm;rw[iR,List.getD_eq_getElem?_getD,hm]at hkc;exact hkc rfl
 ·have hl2 : l = ps := by
   have:=of_decide_eq_false hb;rcases hc with⟨_,h,_⟩|⟨_,h⟩
   ·omega
   ·exact h
  subst hl2;simp only[go_sem,e0,e1,e5,e6,e7];exact .row _ _ _ Ri (ConvE.refl _)
def Ry(l:List ByteArray)(ns:List Int)(ok:Bool):Prop:=(ok=true→l=ns.map aH∧∀n∈ns,bH n)∧(ok=false→ns=[]∧∀ns:List Int,(∀n∈ns,bH n)→l≠ns.map aH)
theorem mA(l:List ByteArray)(hl:l.length≤1048576)(hs:∀p∈l,p.size≤1048576):UC prog 149 [.sl (l.map D.bE)] fun r=>∃(ns:List Int) (ok:Bool),Ry l ns ok∧r=.tup [.sl (ns.map D.aY),boo ok]:=by
 refine UC.body (c:=f149.body.getD .skip) (fun t=>t == 4) mixed func149 rfl (by kernel_rfl) ?_;unfold f149;simp only[Xai];simp only[go_sem];refine aL fun i HGi hi0 (Ri:HGi i=some (gA [])) N=>?_
 clear N hi0;simp only[go_sem,Ri];refine⟨fun ρ H=>∃(ns:List Int) (i:Nat),ns.length≤l.length∧ρ 0=.sl (l.map D.bE)∧ρ 5=int (ns.length:Nat)∧ρ 4=.os i∧H i=some (gA ns)∧l.take ns.length=ns.map aH∧∀n∈ns,bH n,fun ρ _=>l.length-bO (ρ 5),⟨[],i,Xad _,by simp only[go_sem],(by simp only[go_sem];rfl),by simp only[go_sem],Ri,rfl,by simp⟩,?_⟩;clear Ri;rintro ρ H ⟨ns,i,hk,e0,e5,e4,Ri,htk,hi⟩;simp only[go_sem,e0,e5,e4];refine aA (fun hlt=>?_) (fun hge=>?_)
 ·have hlt : ns.length < l.length := by have:=of_decide_eq_true hlt;omega
  obtain⟨p,hp⟩:=cG hlt;have hwr:=fM (show ns.length≤4611686018427387904 by omega);have b1:=inB hlt;simp only[go_sem,e0,e5,e4,aM hp,b1];obtain⟨n,e,hc,hq⟩:=qF p (hs p (aQ hp));refine bB hc ?_;simp only[go_sem,e0,e5,e4];refine aA (fun he=>?_) (fun he=>?_)
  ·simp only[go_sem];refine⟨_,⟨[],false,⟨(fun h=>by cases h),fun _=>⟨rfl,fun ns' h1 h2=>?_⟩⟩,rfl⟩,.refl _⟩;rcases hq with⟨rfl,_⟩|⟨_,hq⟩
   ·exact absurd he (by decide)
   ·have:=aQ hp;rw[h2]at this;obtain⟨m,hm,e⟩:=Xat.1 this;exact hq m (h1 m hm) e.symm
  have he:e=0:=by simpa using he
  rcases hq with⟨_,hn,rfl⟩|⟨h2,_⟩
  ·simp only[go_sem,e0,e5,e4];refine aP Ri ⟨rfl,rfl⟩ (by simp only[go_sem]) (by simp only[Xab,Xaa,List.length_nil];omega) fun j' hj'=>?_
   simp only[go_sem,e0,e5,e4,hwr];refine⟨⟨ns++[n],j',by rw[Xac,List.length_singleton];exact hlt,by simp,rfl,by rw[aD,gA,Xal];rfl,?_,fun m hm=>?_⟩,by simp only[aE];omega⟩
   ·rw[Xac,List.length_singleton,fL hp,htk,Xal];rfl
   ·rcases Xap.1 hm with h|h
    ·exact hi m h
    ·rw[Xbb.1 h];exact hn
  ·exact absurd he h2
 ·have hge : ns.length = l.length := by have:=of_decide_eq_false hge;omega
  rw[hge,Xaj (Xae _)]at htk;simp only[go_sem,e0,e5,e4];exact⟨_,⟨ns,true,⟨fun _=>⟨htk,hi⟩,fun h=>by cases h⟩,rfl⟩,.tup _ _ (.cons _ _ _ _ (.row _ _ _ Ri (ConvE.refl _)) (.cons _ _ _ _ (.refl _) .nil))⟩
theorem G8(l:List ByteArray)(hl:l.length≤1048576)(hs:∀p∈l,p.size≤1048576):UC prog 161 [.sl (l.map D.bE)] fun r=>∃(ns:List Int) (ok:Bool),Ry l ns ok∧r=.tup [.sl (ns.map D.aY),boo ok]:=by
 refine UC.body (c:=f161.body.getD .skip) (fun t=>t == 4) mixed func161 rfl (by kernel_rfl) ?_;unfold f161;simp only[Xai];simp only[go_sem];refine aL fun i HGi hi0 (Ri:HGi i=some (gA [])) N=>?_
 clear N hi0;simp only[go_sem,Ri];refine⟨fun ρ H=>∃(ns:List Int) (i:Nat),ns.length≤l.length∧ρ 0=.sl (l.map D.bE)∧ρ 5=int (ns.length:Nat)∧ρ 4=.os i∧H i=some (gA ns)∧l.take ns.length=ns.map aH∧∀n∈ns,bH n,fun ρ _=>l.length-bO (ρ 5),⟨[],i,Xad _,by simp only[go_sem],(by simp only[go_sem];rfl),by simp only[go_sem],Ri,rfl,by simp⟩,?_⟩;clear Ri;rintro ρ H ⟨ns,i,hk,e0,e5,e4,Ri,htk,hi⟩;simp only[go_sem,e0,e5,e4];refine aA (fun hlt=>?_) (fun hge=>?_)
 ·have hlt : ns.length < l.length := by have:=of_decide_eq_true hlt;omega
  obtain⟨p,hp⟩:=cG hlt;have hwr:=fM (show ns.length≤4611686018427387904 by omega);have b1:=inB hlt;simp only[go_sem,e0,e5,e4,aM hp,b1];obtain⟨n,e,hc,hq⟩:=qF p (hs p (aQ hp));refine bB hc ?_;simp only[go_sem,e0,e5,e4];refine aA (fun he=>?_) (fun he=>?_)
  ·simp only[go_sem];refine⟨_,⟨[],false,⟨(fun h=>by cases h),fun _=>⟨rfl,fun ns' h1 h2=>?_⟩⟩,rfl⟩,.refl _⟩;rcases hq with⟨rfl,_⟩|⟨_,hq⟩
   ·exact absurd he (by decide)
   ·have:=aQ hp;rw[h2]at this;obtain⟨m,hm,e⟩:=Xat.1 this;exact hq m (h1 m hm) e.symm
  have he:e=0:=by simpa using he
  rcases hq with⟨_,hn,rfl⟩|⟨h2,_⟩
  ·simp only[go_sem,e0,e5,e4];refine aP Ri ⟨rfl,rfl⟩ (by simp only[go_sem]) (by simp only[Xab,Xaa,List.length_nil];omega) fun j' hj'=>?_
   simp only[go_sem,e0,e5,e4,hwr];refine⟨⟨ns++[n],j',by rw[Xac,List.length_singleton];exact hlt,by simp,rfl,by rw[aD,gA,Xal];rfl,?_,fun m hm=>?_⟩,by simp only[aE];omega⟩
   ·rw[Xac,List.length_singleton,fL hp,htk,Xal];rfl
   ·rcases Xap.1 hm with h|h
    ·exact hi m h
    ·rw[Xbb.1 h];exact hn
  ·exact absurd he h2
 ·have hge : ns.length = l.length := by have:=of_decide_eq_false hge;omega
  rw[hge,Xaj (Xae _)]at htk;simp only[go_sem,e0,e5,e4];exact⟨_,⟨ns,true,⟨fun _=>⟨htk,hi⟩,fun h=>by cases h⟩,rfl⟩,.tup _ _ (.cons _ _ _ _ (.row _ _ _ Ri (ConvE.refl _)) (.cons _ _ _ _ (.refl _) .nil))⟩
theorem FN(s:ByteArray)(hs:s.size≤1048575):UC prog 151 [str s] fun r=>∃(v:List Int) (ok:Bool),((ok=true→s=iB v∧∀n∈v,bH n)∧(ok=false→∀v,(∀n∈v,bH n)→s≠iB v))∧r=.tup [.sl (v.map D.aY),boo ok]:=by
 refine UC.body (c:=f151.body.getD .skip) (fun _=>false) mixed func151 rfl (by kernel_rfl) ?_;unfold f151;simp only[Xai];simp only[go_sem];refine aA (fun hd=>?_) (fun hd=>?_)
 ·simp only[go_sem];exact⟨_,⟨[],true,⟨fun _=>⟨by rw[xY hd];rfl,by simp⟩,(fun h=>by cases h)⟩,rfl⟩,.refl _⟩
 obtain⟨ps,hne,hno,hj⟩:=rC 44 s;have hpl:=fX 44 ps;rw[←hj]at hpl;have hpc:=pE hne hno (by rw[←hj];exact hs);rw[←hj]at hpc;simp only[go_sem];refine bB hpc ?_;simp only[go_sem];refine(mA ps (by omega) fun p hp=>by have:=bW ⟨#[44]⟩ hp;rw[←hj]at this;omega).use ?_;rintro _ ⟨ns,ok,⟨q1,q2⟩,rfl⟩;simp only[go_sem];refine⟨_,⟨ns,ok,⟨fun h=>?_,fun h v hv e=>?_⟩,rfl⟩,.refl _⟩
 ·obtain⟨h1,h2⟩:=q1 h;have hn:ns≠[]:=fun e=>by rw[e]at h1;exact hne h1
  exact⟨by rw[fA hn,←h1,←hj],h2⟩
 ·obtain⟨_,h2⟩:=q2 h;by_cases hv0:v=[]
  ·subst hv0;exact qC hd e
  ·rw[fA hv0]at e;exact h2 v hv (jF hne (by simpa using hv0) hno (oX (by decide) v) (hj.symm.trans e))
theorem R5(w:ByteArray):∃k:Nat,PC prog 42 [str w] (int k)∧((k=0∧∀i<7,w≠eJ.getD i ⟨#[]⟩)∨(∃i<7,k=i+1∧w=eJ.getD i ⟨#[]⟩)):=by
 have main:∀k:Nat,k≤7→(∀j<k,w≠eJ.getD j ⟨#[]⟩)→∀r:Nat,(k<7→r=k+1∧w=eJ.getD k ⟨#[]⟩)→(k=7→r=0)→PC prog 42 [str w] (int r):=by
  intro i hi hne r h1 h2;refine pcd func42 rfl rfl ?_;simp only[go_sem];refine⟨fun ρ H=>∃k:Nat,k≤i∧ρ 0=str w∧ρ 3=.sl (eJ.map D.bE)∧ρ 4=int k,fun ρ _=>7-bO (ρ 4),⟨0,Xad _,by simp only[go_sem],by simp only[go_sem];rfl,(by simp only[go_sem];rfl)⟩,?_⟩;rintro ρ H ⟨k,hk,e0,e3,e4⟩;have hwl:eJ.length=7:=rfl;simp only[go_sem,e0,e3,e4];refine aA (fun hlt=>?_) (fun hge=>?_)
  ·have hlt : k < eJ.length := by have:=of_decide_eq_true hlt;omega
   have hg:eJ[k]?=some (eJ.getD k ⟨#[]⟩):=by rw[List.getElem?_eq_getElem hlt,List.getD_eq_getElem?_getD,List.getElem?_eq_getElem hlt];rfl
   have b1:=inB hlt;simp only[go_sem,e0,e3,e4,aM hg,b1];refine aA (fun hb=>?_) (fun hb=>?_)
   ·have hb:=fP hb;have hki:k=i:=by
     rcases Xbc k i with h|h
     ·exact absurd hb.symm (hne k h)
     ·omega
    subst hki;obtain⟨rfl,_⟩:=h1 (by omega);simp only[go_sem,e0,e3,e4,cH k];exact .refl _
   ·have hki : k ≠ i := fun e => by subst e;rw[←(h1 (by omega)).2]at hb;simp at hb
    simp only[go_sem,e0,e3,e4,cH k];exact⟨⟨k+1,by omega,rfl⟩,by simp only[aE];omega⟩
  ·have : k = 7 := by have:=of_decide_eq_false hge;rw[hwl]at this;omega
   rw[h2 (by omega)];simp only[go_sem];exact .refl _
 by_cases h:∃i<7,w=eJ.getD i ⟨#[]⟩
 ·obtain⟨i,hi,hw⟩:=h;refine⟨i+1,main i (by omega) (fun j hj e=>?_) (i+1) (fun _=>⟨rfl,hw⟩) (fun e=>by omega),.inr ⟨i,hi,rfl,hw⟩⟩;have:=xZ i hi j (by omega);rw[←e,←hw,beq_self_eq_true]at this;have:=of_decide_eq_true this.symm;omega
 ·have hno:∀i<7,w≠eJ.getD i ⟨#[]⟩:=fun i hi e=>h ⟨i,hi,e⟩
  exact⟨0,main 7 (by omega) hno 0 (fun h=>by omega) (fun _=>rfl),.inl ⟨rfl,hno⟩⟩
def Aa(p:ByteArray):Bool:= !(((p.data.getD 0 0).toNat:Int) == 34)
theorem C6{p:ByteArray}(h:hJ p=true)(hq:Aa p=true):aW p=true:=by
 unfold hJ xS at h;rcases Bool.or_eq_true_iff.1 h with h|h
 ·exact h
 ·rw[Xag]at h;unfold Aa at hq;rw[h.2]at hq;cases hq
theorem MB{p:ByteArray}(h:aW p=true):Aa p=true:=by
 unfold Aa;have hp:=iL h;have:=pF h (p.data.getD 0 0) (by have:=xK hp;exact List.mem_of_mem_head? this);cases hb:(((p.data.getD 0 0).toNat:Int) == 34)with
 | false=>rfl
 | true=>rw[eq_of_beq hb]at this;exact absurd this (by decide)
theorem SF(l:List ByteArray)(hl:∀p∈l,0<p.size)(hs:l.length≤1048576):PC prog 41 [.sl (l.map D.bE)] (boo (l.all Aa&&decide (0<l.length))):=by
 refine pcd func41 rfl rfl ?_;simp only[go_sem];refine⟨fun ρ H=>∃k:Nat,k≤l.length∧ρ 0=.sl (l.map D.bE)∧ρ 3=int k∧∀p∈l.take k,Aa p=true,fun ρ _=>l.length-bO (ρ 3),⟨0,Xad _,by simp only[go_sem],(by simp only[go_sem];rfl),by simp⟩,?_⟩;rintro ρ H ⟨k,hk,e0,e3,hn⟩;simp only[go_sem,e0,e3];refine aA (fun hlt=>?_) (fun hge=>?_)
 ·have hlt : k < l.length := by have:=of_decide_eq_true hlt;omega
  obtain⟨p,hp⟩:=cG hlt;have b1:=inB hlt;have hpos:=hl p (aQ hp);simp only[go_sem,e0,e3,aM hp,b1];refine⟨⟨by omega,by omega⟩,aA (fun hb=>?_) (fun hb=>?_)⟩
  ·have : l.all Aa = false := by rw[List.all_eq_false];refine⟨p,aQ hp,?_⟩;unfold Aa;rw[show(((p.data.getD 0 0).toNat:Int) == 34)=true from hb];decide
   rw[this];simp only[go_sem];exact .refl _
  ·simp only[go_sem,e0,e3,cH k];exact⟨⟨k+1,hlt,rfl,mE hp hn (congrArg (fun b=> !b) hb)⟩,by simp only[aE];omega⟩
 ·have hge : k = l.length := by have:=of_decide_eq_false hge;omega
  rw[hge,Xaj (Xae _)]at hn;simp only[go_sem,e0,e3];rw[Xax.2 hn,Bool.true_and];exact cB (decide_eq_decide.2 (by omega))
end Sp
namespace Sp
open Go.Proofs.YthbiheckeoknlaaGreatDoor
open Go.Proofs.YthbiheckeoknlaaGreatDoor.Nw (ltB geB cB)
open Go.Proofs.YthbiheckeoknlaaGreatDoor.Sk
open Go.Proofs.YthbiheckeoknlaaGreatDoor.Sc
open Go.RowKit (Below)
theorem tJ(l:List Point):∀p∈l.map fQ,(44:UInt8)∉p.data.toList:=fun p hp hm=>by
 obtain⟨n,_,rfl⟩:=Xat.1 hp;rcases Mc n _ hm with h|h
 ·exact LI h (d:=44) (by decide) rfl
 ·exact absurd h (by decide)
section
variable{H:aC}{K:AV→aC→Prop}{Z:aC→Prop}{b:Nat}{l:List ByteArray}
theorem MG(hb:H b=some (jU l))(hp:∀p∈l,hJ p=true)(hs:∀p∈l,p.size≤1048575)(hl:l.length≤1048577):RX 65 b H (fun(v:List Point) r=>l=eP v::r∧∀p∈v,gH p) (fun v=>.sl (v.map bL)):=by
 intro K Z h1 h0;refine cQ.data (H1:=bG H b (some (jU l.tail))) (Q:=fun a=>∃v:List Point,(l=eP v::l.tail∧∀p∈v,gH p)∧a=.sl (v.map bL)) (Ji hb) ?_ (fun a ⟨v,q,e⟩=>e▸h1 v _ _ q (aD _ _ _) fun _ _ hk hr=>(aK _ _ _ _ hk).trans hr);refine cQ.body (c:=Tryz.f65.body.getD .skip) (fun t=>t == 4) mixed Tryz.func65 rfl (by kernel_rfl) ?_;unfold Tryz.f65;simp only[Xai];simp only[go_sem];refine(vP hb hp hl).use (fun w r G ⟨e,_⟩ B F=>?_) (fun G e F=>?_);rotate_left
 ·exact h0 G (fun v r h=>e _ _ ⟨h.1,wR v⟩) F
 subst e;have hw:=hs w (by simp);generalize hX:bG H b (some (jU (w::r).tail))=X;have U:Sup X G:=fun k row h=>by
  subst hX;by_cases e:k=b
  ·subst e;rw[aD]at h;exact B.trans h
  ·rw[aK _ _ _ _ e]at h;exact F k row e h
 have FX:∀{H'},Sup X H'→Fr b H H':=fun {H'} u k row hk h=>u k row (by subst hX;exact(aK _ _ _ _ hk).trans h)
 clear hX B F;simp only[go_sem];refine aA (fun hd=>?_) (fun hd=>?_)
 ·simp only[go_sem];exact⟨_,⟨[],⟨by rw[xY hd];rfl,by simp⟩,rfl⟩,Qm.flat U _⟩
 obtain⟨ps,hne,hno,hj⟩:=rC 44 w;have hpl:=fX 44 ps;rw[←hj]at hpl;have hsp:=LR (c:=44) hne hno (by rw[←hj];omega);rw[←hj]at hsp;have hsz:∀p∈ps,p.size≤1048575:=fun p hp=>by have:=bW ⟨#[44]⟩ hp;rw[←hj]at this;omega
 have fails:∀p∈ps,(∀q:Point,gH q→p≠fQ q)→∀H',Sup X H'→Z H':=fun p hp hq H' u=>by
  refine h0 H' (fun v r' ⟨q1,q2⟩=>?_) (FX u);injection q1 with q1 _;by_cases hv:v=[]
  ·subst hv;exact qC hd q1
  ·have:=jF hne (by simpa using hv) hno (tJ v) (hj.symm.trans (q1.trans (eX hv)));rw[this]at hp;obtain⟨q,hq',rfl⟩:=Xat.1 hp;exact hq q (q2 q hq') rfl
 simp only[go_sem];refine aL fun i HGi hi0 (Ri:HGi i=some (AL [])) N=>?_
 replace hi0:=U.none hi0;replace U:Sup X HGi:=fun _ _ h=>(N (U _ _ h)).2
 clear N;simp only[go_sem,Ri];refine(PC.use hsp ?_).x;simp only[go_sem];refine⟨fun ρ H'=>∃(i:Nat) (v:List Point),v.length≤ps.length∧ρ 13=.sl (ps.map D.bE)∧ρ 14=int (ps.length:Nat)∧ρ 15=int (v.length:Nat)∧ρ 4=.os i∧H' i=some (AL v)∧ps.take v.length=v.map fQ∧(∀p∈v,gH p)∧Sup X H'∧X i=none,fun ρ _=>ps.length-bO (ρ 15),⟨i,[],Xad _,by simp only[go_sem],by simp only[go_sem,Xab],(by simp only[go_sem];rfl),by simp only[go_sem],Ri,rfl,by simp,U,hi0⟩,?_⟩;clear U Ri hi0;rintro ρ H' ⟨i,v,hk,e13,e14,e15,e4,Ri,htk,hv,U,hi0⟩;simp only[go_sem,e13,e14,e15,e4];refine aA (fun hlt=>?_) (fun hge=>?_)
 ·have hlt:=ltB hlt;obtain⟨p,hp⟩:=cG hlt;have b1:=inB hlt;have hwr:=fM (show v.length≤4611686018427387904 by omega);simp only[go_sem,e13,e14,e15,e4,aM hp,b1];refine JZ (by decide) p (hsz p (aQ hp)) (fun n ⟨q1,q2,q3⟩=>?_) (fun e G' U'=>fails p (aQ hp) (fun q hq e'=>e [q.t,q.a] ⟨by simp,fun m hm=>?_,by rw[e',fR]⟩) _ fun k row h=>U' _ _ (U _ _ h));rotate_left
  ·simp only[Xaf,List.not_mem_nil,or_false]at hm;rcases hm with rfl|rfl
   ·exact hq.1
   ·exact hq.2
  simp only[go_sem,e13,e14,e15,e4];refine aA (fun hn=>?_) (fun hn=>?_)
  ·simp only[go_sem];refine qL (fails p (aQ hp) (fun q hq e'=>?_) _ U);rw[fR]at e';have:=nJ (by decide) q1 (by simp) (q3.symm.trans e');subst this;exact absurd hn (by simp)
  have h2:n.length=2:=by
   have:((n.map D.aY).length:Int)=2:=by simpa using hn
   rw[Xab]at this;omega
  match n,h2 with
  | [x,y],_=>
  simp only[go_sem,e13,e14,e15,e4];refine bX [(0,true),(1,true),(2,true),(3,true),(4,true),(5,true),(6,true),(7,true),(8,false),(9,false),(10,false)] (by kernel_rfl) ?_;simp only[go_sem,e13,e14,e15,e4];refine⟨⟨by omega,by omega⟩,⟨by omega,by omega⟩,?_⟩;refine aP Ri ⟨rfl,rfl⟩ (by simp only[go_sem]) (by simp only[Xab,Xaa,List.length_nil];omega) fun j' hj'=>?_
  simp only[go_sem,e13,e14,e15,e4,hwr];refine⟨⟨j',v++[⟨x,y⟩],by rw[Xac,List.length_singleton];exact hlt,by simp,rfl,by rw[aD,AL,Xal];rfl,?_,fun m hm=>?_,(U.upd hi0 _).upd (U.none hj') _,U.none hj'⟩,by simp only[aE];omega⟩
  ·rw[Xac,List.length_singleton,fL hp,htk,Xal]
   congr 1
   rw[q3,←fR ⟨x,y⟩];rfl
  ·rcases Xap.1 hm with h|h
   ·exact hv m h
   ·rw[Xbb.1 h];exact⟨q2 _ (by simp),q2 _ (by simp)⟩
 ·have hge:=geB hk hge;rw[hge,Xaj (Xae _)]at htk;have hv0:v≠[]:=fun e=>by rw[e]at htk;exact hne (by simpa using htk)
  simp only[go_sem,e13,e14,e15,e4];exact⟨_,⟨v,⟨by rw[eX hv0,←htk,←hj];rfl,hv⟩,rfl⟩,U,[i],by simpa using hi0,.row _ _ _ (show(fun k=>if k∈[i]then H' k else none) i=some (AL v)by simp[Ri]) (ConvE.refl _)⟩
end
end Sp
namespace Sp
open Go.Proofs.YthbiheckeoknlaaGreatDoor
open Go.Proofs.YthbiheckeoknlaaGreatDoor.Nw (ltB geB cB)
open Go.Proofs.YthbiheckeoknlaaGreatDoor.Sk
open Go.Proofs.YthbiheckeoknlaaGreatDoor.Sc
def OkL(l:List ByteArray):Prop:=(∀p∈l,hJ p=true∧p.size≤1048575)∧l.length≤1048577
theorem OkL.tl{w:ByteArray}{r:List ByteArray}(h:OkL (w::r)):OkL r:=⟨fun p hp=>h.1 p (by simp[hp]),by have:=h.2;simp only[Xaa]at this;omega⟩
theorem OkL.sz{w:ByteArray}{r:List ByteArray}(h:OkL (w::r)):w.size≤1048575:=(h.1 w (by simp)).2
theorem uA(v:List Int):v.length≤(iB v).size+1:=by
 by_cases h:v=[]
 ·subst h;exact Xad _
 ·have:=fX 44 (v.map aH);rw[Xab,←fA h]at this;exact this
section
variable{H:aC}{b:Nat}{l:List ByteArray}
theorem yQ(hb:H b=some (jU l))(ok:OkL l):RX 63 b H (fun w r=>l=w::r∧aW w=true) str:=vP hb (fun p hp=>(ok.1 p hp).1) ok.2
theorem fY(hb:H b=some (jU l))(ok:OkL l):RX 64 b H (fun n r=>l=aH n::r∧bH n) int:=SO hb (fun p hp=>(ok.1 p hp).1) (fun p hp=>by have:=(ok.1 p hp).2;omega) ok.2
theorem Oo(hb:H b=some (jU l))(ok:OkL l):RX 124 b H (fun(v:List Int) r=>l=iB v::r∧∀n∈v,bH n) (fun v=>.sl (v.map D.aY)):=Q9 hb (fun p hp=>(ok.1 p hp).1) (fun p hp=>(ok.1 p hp).2) ok.2
theorem NL(hb:H b=some (jU l))(ok:OkL l):RX 125 b H (fun(v:Stop) r=>l=eQ v::r∧jQ v) (fun v=>.agg (dQ v)):=Rd hb (fun p hp=>(ok.1 p hp).1) (fun p hp=>(ok.1 p hp).2) ok.2
theorem IT(hb:H b=some (jU l))(ok:OkL l):RX 65 b H (fun(v:List Point) r=>l=eP v::r∧∀p∈v,gH p) (fun v=>.sl (v.map bL)):=MG hb (fun p hp=>(ok.1 p hp).1) (fun p hp=>(ok.1 p hp).2) ok.2
theorem gI{s t:ByteArray}(h:(s.toList == t.toList)=true):s=t:=by have:=eq_of_beq h;rw[Lib.toList_data,Lib.toList_data]at this;exact gD this
abbrev kR(a:List AV):Row:=⟨112,14,[a++(aX ⟨⟨#[]⟩,0,0,0,[],0,0,0,0,0,0,0,0,0⟩).drop a.length]⟩
abbrev oR(a:List AV):Row:=⟨64,16,[a++(aB ⟨⟨#[]⟩,[],⟨0,0,0,0⟩,⟨0,0,0,0⟩,0,0,0,0,0,false⟩).drop a.length]⟩
def Kz(t:VType):List ByteArray:=[t.name,aH t.count,aH t.src,aH t.dst,iB t.cap,aH t.skills,aH t.profile,aH t.start,aH t.close,aH t.drive,aH t.rest,aH t.fixed,aH t.perMile,aH t.perTick]
def EH(o:Order):List ByteArray:=[o.name,iB o.load,eQ o.pick,eQ o.drop,aH o.skills,aH o.penalty,aH o.split,aH o.last,aH o.now,onS o.off]
theorem OF(hb:H b=some (jU l))(ok:OkL l):RX 66 b H (fun t r=>l=Kz t++r∧OkType t∧aW t.name=true) (fun t=>.agg (aX t)):=by
 intro K Z h1 h0;refine cQ.body (c:=Tryz.f66.body.getD .skip) (fun _=>false) mixed Tryz.func66 rfl (by kernel_rfl) ?_;unfold Tryz.f66;simp only[Xai];simp only[go_sem];refine aL fun p G hp (P:G p=some ⟨112,14,[aX ⟨⟨#[]⟩,0,0,0,[],0,0,0,0,0,0,0,0,0⟩]⟩) N=>?_
 obtain⟨npb,B⟩:=N hb;replace npb:=npb.symm;have F:Fr b H G:=fun _ _ _ h=>(N h).2
 clear N;simp only[go_sem];refine aL fun q G hq0 (Q:G q=some (kR [])) N=>?_
 have hq:H q=none:=F.none B hq0;replace F:=F.new N;obtain⟨nqb,B⟩:=N B;replace nqb:=nqb.symm;obtain⟨npq,P⟩:=N P;clear N hq0;simp only[go_sem];refine(yQ B ok).use (fun x0 l0 G1 ⟨e,o0⟩ B1 F1=>?_) (fun G1 e F1=>h0 _ (fun v r h=>e _ _ ⟨congrArg (List.drop 0) h.1,h.2.2⟩) (F.trans F1));have s0:=(e▸ok).sz;replace ok:=(e▸ok).tl;subst e;replace B:=B1;replace P:=F1 _ _ npb P;replace Q:=F1 _ _ nqb Q;replace F:=F.trans F1;clear B1 F1;simp only[go_sem];refine bU so9 Q ⟨Nat.zero_lt_one,rfl,Nat.le_of_ble_eq_true rfl⟩ fun G Q1 F1=>?_
 replace B:=F1 _ _ nqb.symm B;replace P:=F1 _ _ npq P;replace F:=F.put hq F1;replace Q:G q=some (kR [str x0]):=Q1;clear Q1 F1;simp only[go_sem];refine(fY B ok).use (fun x1 l1 G1 ⟨e,o1⟩ B1 F1=>?_) (fun G1 e F1=>h0 _ (fun v r h=>e _ _ ⟨congrArg (List.drop 1) h.1,h.2.1.count⟩) (F.trans F1));have s1:=(e▸ok).sz;replace ok:=(e▸ok).tl;subst e;replace B:=B1;replace P:=F1 _ _ npb P;replace Q:=F1 _ _ nqb Q;replace F:=F.trans F1;clear B1 F1;simp only[go_sem];refine bU so3 Q ⟨Nat.zero_lt_one,rfl,Nat.le_of_ble_eq_true rfl⟩ fun G Q1 F1=>?_
 replace B:=F1 _ _ nqb.symm B;replace P:=F1 _ _ npq P;replace F:=F.put hq F1;replace Q:G q=some (kR [str x0,int x1]):=Q1;clear Q1 F1;simp only[go_sem];refine(fY B ok).use (fun x2 l2 G1 ⟨e,o2⟩ B1 F1=>?_) (fun G1 e F1=>h0 _ (fun v r h=>e _ _ ⟨congrArg (List.drop 2) h.1,h.2.1.src⟩) (F.trans F1));have s2:=(e▸ok).sz;replace ok:=(e▸ok).tl;subst e;replace B:=B1;replace P:=F1 _ _ npb P;replace Q:=F1 _ _ nqb Q;replace F:=F.trans F1;clear B1 F1;simp only[go_sem];refine bU so3 Q ⟨Nat.zero_lt_one,rfl,Nat.le_of_ble_eq_true rfl⟩ fun G Q1 F1=>?_
 replace B:=F1 _ _ nqb.symm B;replace P:=F1 _ _ npq P;replace F:=F.put hq F1;replace Q:G q=some (kR [str x0,int x1,int x2]):=Q1;clear Q1 F1;simp only[go_sem];refine(fY B ok).use (fun x3 l3 G1 ⟨e,o3⟩ B1 F1=>?_) (fun G1 e F1=>h0 _ (fun v r h=>e _ _ ⟨congrArg (List.drop 3) h.1,h.2.1.dst⟩) (F.trans F1));have s3:=(e▸ok).sz;replace ok:=(e▸ok).tl;subst e;replace B:=B1;replace P:=F1 _ _ npb P;replace Q:=F1 _ _ nqb Q;replace F:=F.trans F1;clear B1 F1;simp only[go_sem];refine bU so3 Q ⟨Nat.zero_lt_one,rfl,Nat.le_of_ble_eq_true rfl⟩ fun G Q1 F1=>?_
 replace B:=F1 _ _ nqb.symm B;replace P:=F1 _ _ npq P;replace F:=F.put hq F1;replace Q:G q=some (kR [str x0,int x1,int x2,int x3]):=Q1;clear Q1 F1;simp only[go_sem];refine(Oo B ok).use (fun x4 l4 G1 ⟨e,o4⟩ B1 F1=>?_) (fun G1 e F1=>h0 _ (fun v r h=>e _ _ ⟨congrArg (List.drop 4) h.1,h.2.1.cap⟩) (F.trans F1));have s4:=(e▸ok).sz;replace ok:=(e▸ok).tl;subst e;replace B:=B1;replace P:=F1 _ _ npb P;replace Q:=F1 _ _ nqb Q;replace F:=F.trans F1;clear B1 F1;simp only[go_sem];refine bU Cs Q ⟨Nat.zero_lt_one,rfl,Nat.le_of_ble_eq_true rfl⟩ fun G Q1 F1=>?_
 replace B:=F1 _ _ nqb.symm B;replace P:=F1 _ _ npq P;replace F:=F.put hq F1;replace Q:G q=some (kR [str x0,int x1,int x2,int x3,.sl (x4.map D.aY)]):=Q1;clear Q1 F1;simp only[go_sem];refine(fY B ok).use (fun x5 l5 G1 ⟨e,o5⟩ B1 F1=>?_) (fun G1 e F1=>h0 _ (fun v r h=>e _ _ ⟨congrArg (List.drop 5) h.1,h.2.1.skills⟩) (F.trans F1));have s5:=(e▸ok).sz;replace ok:=(e▸ok).tl;subst e;replace B:=B1;replace P:=F1 _ _ npb P;replace Q:=F1 _ _ nqb Q;replace F:=F.trans F1;clear B1 F1;simp only[go_sem];refine bU so3 Q ⟨Nat.zero_lt_one,rfl,Nat.le_of_ble_eq_true rfl⟩ fun G Q1 F1=>?_
 replace B:=F1 _ _ nqb.symm B;replace P:=F1 _ _ npq P;replace F:=F.put hq F1;replace Q:G q=some (kR [str x0,int x1,int x2,int x3,.sl (x4.map D.aY),int x5]):=Q1;clear Q1 F1;simp only[go_sem];refine(fY B ok).use (fun x6 l6 G1 ⟨e,o6⟩ B1 F1=>?_) (fun G1 e F1=>h0 _ (fun v r h=>e _ _ ⟨congrArg (List.drop 6) h.1,h.2.1.profile⟩) (F.trans F1));have s6:=(e▸ok).sz;replace ok:=(e▸ok).tl;subst e;replace B:=B1;replace P:=F1 _ _ npb P;replace Q:=F1 _ _ nqb Q;replace F:=F.trans F1;clear B1 F1;simp only[go_sem];refine bU so3 Q ⟨Nat.zero_lt_one,rfl,Nat.le_of_ble_eq_true rfl⟩ fun G Q1 F1=>?_
 replace B:=F1 _ _ nqb.symm B;replace P:=F1 _ _ npq P;replace F:=F.put hq F1;replace Q:G q=some (kR [str x0,int x1,int x2,int x3,.sl (x4.map D.aY),int x5,int x6]):=Q1;clear Q1 F1;simp only[go_sem];refine(fY B ok).use (fun x7 l7 G1 ⟨e,o7⟩ B1 F1=>?_) (fun G1 e F1=>h0 _ (fun v r h=>e _ _ ⟨congrArg (List.drop 7) h.1,h.2.1.start⟩) (F.trans F1));have s7:=(e▸ok).sz;replace ok:=(e▸ok).tl;subst e;replace B:=B1;replace P:=F1 _ _ npb P;replace Q:=F1 _ _ nqb Q;replace F:=F.trans F1;clear B1 F1;simp only[go_sem];refine bU so3 Q ⟨Nat.zero_lt_one,rfl,Nat.le_of_ble_eq_true rfl⟩ fun G Q1 F1=>?_
 replace B:=F1 _ _ nqb.symm B;replace P:=F1 _ _ npq P;replace F:=F.put hq F1;replace Q:G q=some (kR [str x0,int x1,int x2,int x3,.sl (x4.map D.aY),int x5,int x6,int x7]):=Q1;clear Q1 F1;simp only[go_sem];refine(fY B ok).use (fun x8 l8 G1 ⟨e,o8⟩ B1 F1=>?_) (fun G1 e F1=>h0 _ (fun v r h=>e _ _ ⟨congrArg (List.drop 8) h.1,h.2.1.close⟩) (F.trans F1));have s8:=(e▸ok).sz;replace ok:=(e▸ok).tl;subst e;replace B:=B1;replace P:=F1 _ _ npb P;replace Q:=F1 _ _ nqb Q;replace F:=F.trans F1;clear B1 F1;simp only[go_sem];refine bU so3 Q ⟨Nat.zero_lt_one,rfl,Nat.le_of_ble_eq_true rfl⟩ fun G Q1 F1=>?_
 replace B:=F1 _ _ nqb.symm B;replace P:=F1 _ _ npq P;replace F:=F.put hq F1;replace Q:G q=some (kR [str x0,int x1,int x2,int x3,.sl (x4.map D.aY),int x5,int x6,int x7,int x8]):=Q1;clear Q1 F1;simp only[go_sem];refine(fY B ok).use (fun x9 l9 G1 ⟨e,o9⟩ B1 F1=>?_) (fun G1 e F1=>h0 _ (fun v r h=>e _ _ ⟨congrArg (List.drop 9) h.1,h.2.1.drive⟩) (F.trans F1));have s9:=(e▸ok).sz;replace ok:=(e▸ok).tl;subst e;replace B:=B1;replace P:=F1 _ _ npb P;replace Q:=F1 _ _ nqb Q;replace F:=F.trans F1;clear B1 F1;simp only[go_sem];refine bU so3 Q ⟨Nat.zero_lt_one,rfl,Nat.le_of_ble_eq_true rfl⟩ fun G Q1 F1=>?_
 replace B:=F1 _ _ nqb.symm B;replace P:=F1 _ _ npq P;replace F:=F.put hq F1;replace Q:G q=some (kR [str x0,int x1,int x2,int x3,.sl (x4.map D.aY),int x5,int x6,int x7,int x8,int x9]):=Q1;clear Q1 F1;simp only[go_sem];refine(fY B ok).use (fun x10 l10 G1 ⟨e,o10⟩ B1 F1=>?_) (fun G1 e F1=>h0 _ (fun v r h=>e _ _ ⟨congrArg (List.drop 10) h.1,h.2.1.rest⟩) (F.trans F1));have s10:=(e▸ok).sz;replace ok:=(e▸ok).tl;subst e;replace B:=B1;replace P:=F1 _ _ npb P;replace Q:=F1 _ _ nqb Q;replace F:=F.trans F1;clear B1 F1;simp only[go_sem];refine bU so3 Q ⟨Nat.zero_lt_one,rfl,Nat.le_of_ble_eq_true rfl⟩ fun G Q1 F1=>?_
 replace B:=F1 _ _ nqb.symm B;replace P:=F1 _ _ npq P;replace F:=F.put hq F1;replace Q:G q=some (kR [str x0,int x1,int x2,int x3,.sl (x4.map D.aY),int x5,int x6,int x7,int x8,int x9,int x10]):=Q1;clear Q1 F1;simp only[go_sem];refine(fY B ok).use (fun x11 l11 G1 ⟨e,o11⟩ B1 F1=>?_) (fun G1 e F1=>h0 _ (fun v r h=>e _ _ ⟨congrArg (List.drop 11) h.1,h.2.1.fixed⟩) (F.trans F1));have s11:=(e▸ok).sz;replace ok:=(e▸ok).tl;subst e;replace B:=B1;replace P:=F1 _ _ npb P;replace Q:=F1 _ _ nqb Q;replace F:=F.trans F1;clear B1 F1;simp only[go_sem];refine bU so3 Q ⟨Nat.zero_lt_one,rfl,Nat.le_of_ble_eq_true rfl⟩ fun G Q1 F1=>?_
 replace B:=F1 _ _ nqb.symm B;replace P:=F1 _ _ npq P;replace F:=F.put hq F1;replace Q:G q=some (kR [str x0,int x1,int x2,int x3,.sl (x4.map D.aY),int x5,int x6,int x7,int x8,int x9,int x10,int x11]):=Q1;clear Q1 F1;simp only[go_sem];refine(fY B ok).use (fun x12 l12 G1 ⟨e,o12⟩ B1 F1=>?_) (fun G1 e F1=>h0 _ (fun v r h=>e _ _ ⟨congrArg (List.drop 12) h.1,h.2.1.perMile⟩) (F.trans F1));have s12:=(e▸ok).sz;replace ok:=(e▸ok).tl;subst e;replace B:=B1;replace P:=F1 _ _ npb P;replace Q:=F1 _ _ nqb Q;replace F:=F.trans F1;clear B1 F1;simp only[go_sem];refine bU so3 Q ⟨Nat.zero_lt_one,rfl,Nat.le_of_ble_eq_true rfl⟩ fun G Q1 F1=>?_
 replace B:=F1 _ _ nqb.symm B;replace P:=F1 _ _ npq P;replace F:=F.put hq F1;replace Q:G q=some (kR [str x0,int x1,int x2,int x3,.sl (x4.map D.aY),int x5,int x6,int x7,int x8,int x9,int x10,int x11,int x12]):=Q1;clear Q1 F1;simp only[go_sem];refine(fY B ok).use (fun x13 l13 G1 ⟨e,o13⟩ B1 F1=>?_) (fun G1 e F1=>h0 _ (fun v r h=>e _ _ ⟨congrArg (List.drop 13) h.1,h.2.1.perTick⟩) (F.trans F1));have s13:=(e▸ok).sz;replace ok:=(e▸ok).tl;subst e;replace B:=B1;replace P:=F1 _ _ npb P;replace Q:=F1 _ _ nqb Q;replace F:=F.trans F1;clear B1 F1;simp only[go_sem];refine bU so3 Q ⟨Nat.zero_lt_one,rfl,Nat.le_of_ble_eq_true rfl⟩ fun G Q1 F1=>?_
 replace B:=F1 _ _ nqb.symm B;replace P:=F1 _ _ npq P;replace F:=F.put hq F1;replace Q:G q=some (kR [str x0,int x1,int x2,int x3,.sl (x4.map D.aY),int x5,int x6,int x7,int x8,int x9,int x10,int x11,int x12,int x13]):=Q1;clear Q1 F1;simp only[go_sem];replace Q:G q=some ⟨112,14,[aX ⟨x0,x1,x2,x3,x4,x5,x6,x7,x8,x9,x10,x11,x12,x13⟩]⟩:=Q;simp only[go_sem,Q];refine bF P ⟨Nat.zero_lt_one,rfl,Nat.le_of_ble_eq_true rfl⟩ fun G P1 F1=>?_
 replace B:=F1 _ _ npb.symm B;replace F:=F.put hp F1;simp only[go_sem,P1];exact h1 ⟨x0,x1,x2,x3,x4,x5,x6,x7,x8,x9,x10,x11,x12,x13⟩ l13 G ⟨rfl,⟨show x0.size≤1048576 by omega,o1,o2,o3,show x4.length≤1048576 by have:=uA x4;omega,o4,o5,o6,o7,o8,o9,o10,o11,o12,o13⟩,o0⟩ B F
theorem L0(hb:H b=some (jU l))(ok:OkL l):RX 67 b H (fun t r=>l=EH t++r∧OkOrder t∧aW t.name=true) (fun t=>.agg (aB t)):=by
 intro K Z h1 h0;refine cQ.body (c:=Tryz.f67.body.getD .skip) (fun _=>false) mixed Tryz.func67 rfl (by kernel_rfl) ?_;unfold Tryz.f67;simp only[Xai];simp only[go_sem];refine aL fun p G hp (P:G p=some ⟨64,16,[aB ⟨⟨#[]⟩,[],⟨0,0,0,0⟩,⟨0,0,0,0⟩,0,0,0,0,0,false⟩]⟩) N=>?_
 obtain⟨npb,B⟩:=N hb;replace npb:=npb.symm;have F:Fr b H G:=fun _ _ _ h=>(N h).2
 clear N;simp only[go_sem];refine aL fun q G hq0 (Q:G q=some (oR [])) N=>?_
 have hq:H q=none:=F.none B hq0;replace F:=F.new N;obtain⟨nqb,B⟩:=N B;replace nqb:=nqb.symm;obtain⟨npq,P⟩:=N P;clear N hq0;simp only[go_sem];refine(yQ B ok).use (fun x0 l0 G1 ⟨e,o0⟩ B1 F1=>?_) (fun G1 e F1=>h0 _ (fun v r h=>e _ _ ⟨congrArg (List.drop 0) h.1,h.2.2⟩) (F.trans F1));have s0:=(e▸ok).sz;replace ok:=(e▸ok).tl;subst e;replace B:=B1;replace P:=F1 _ _ npb P;replace Q:=F1 _ _ nqb Q;replace F:=F.trans F1;clear B1 F1;simp only[go_sem];refine bU so9 Q ⟨Nat.zero_lt_one,rfl,Nat.le_of_ble_eq_true rfl⟩ fun G Q1 F1=>?_
 replace B:=F1 _ _ nqb.symm B;replace P:=F1 _ _ npq P;replace F:=F.put hq F1;replace Q:G q=some (oR [str x0]):=Q1;clear Q1 F1;simp only[go_sem];refine(Oo B ok).use (fun x1 l1 G1 ⟨e,o1⟩ B1 F1=>?_) (fun G1 e F1=>h0 _ (fun v r h=>e _ _ ⟨congrArg (List.drop 1) h.1,h.2.1.load⟩) (F.trans F1));have s1:=(e▸ok).sz;replace ok:=(e▸ok).tl;subst e;replace B:=B1;replace P:=F1 _ _ npb P;replace Q:=F1 _ _ nqb Q;replace F:=F.trans F1;clear B1 F1;simp only[go_sem];refine bU Cs Q ⟨Nat.zero_lt_one,rfl,Nat.le_of_ble_eq_true rfl⟩ fun G Q1 F1=>?_
 replace B:=F1 _ _ nqb.symm B;replace P:=F1 _ _ npq P;replace F:=F.put hq F1;replace Q:G q=some (oR [str x0,.sl (x1.map D.aY)]):=Q1;clear Q1 F1;simp only[go_sem];refine(NL B ok).use (fun x2 l2 G1 ⟨e,o2⟩ B1 F1=>?_) (fun G1 e F1=>h0 _ (fun v r h=>e _ _ ⟨congrArg (List.drop 2) h.1,h.2.1.pick⟩) (F.trans F1));have s2:=(e▸ok).sz;replace ok:=(e▸ok).tl;subst e;replace B:=B1;replace P:=F1 _ _ npb P;replace Q:=F1 _ _ nqb Q;replace F:=F.trans F1;clear B1 F1;simp only[go_sem];refine(NL B ok).use (fun x3 l3 G1 ⟨e,o3⟩ B1 F1=>?_) (fun G1 e F1=>h0 _ (fun v r h=>e _ _ ⟨congrArg (List.drop 3) h.1,h.2.1.drop⟩) (F.trans F1));have s3:=(e▸ok).sz;replace ok:=(e▸ok).tl;subst e;replace B:=B1;replace P:=F1 _ _ npb P;replace Q:=F1 _ _ nqb Q;replace F:=F.trans F1;clear B1 F1;simp only[go_sem];refine bF Q ⟨Nat.zero_lt_one,rfl,Nat.le_of_ble_eq_true rfl⟩ fun G Q1 F1=>?_
 replace B:=F1 _ _ nqb.symm B;replace P:=F1 _ _ npq P;replace F:=F.put hq F1;replace Q:G q=some (oR [str x0,.sl (x1.map D.aY),int x2.place,int x2.start,int x2.close,int x2.service]):=Q1;clear Q1 F1;simp only[go_sem];refine bF Q ⟨Nat.zero_lt_one,rfl,Nat.le_of_ble_eq_true rfl⟩ fun G Q1 F1=>?_
 replace B:=F1 _ _ nqb.symm B;replace P:=F1 _ _ npq P;replace F:=F.put hq F1;replace Q:G q=some (oR [str x0,.sl (x1.map D.aY),int x2.place,int x2.start,int x2.close,int x2.service,int x3.place,int x3.start,int x3.close,int x3.service]):=Q1;clear Q1 F1;simp only[go_sem];refine(fY B ok).use (fun x4 l4 G1 ⟨e,o4⟩ B1 F1=>?_) (fun G1 e F1=>h0 _ (fun v r h=>e _ _ ⟨congrArg (List.drop 4) h.1,h.2.1.skills⟩) (F.trans F1));have s4:=(e▸ok).sz;replace ok:=(e▸ok).tl;subst e;replace B:=B1;replace P:=F1 _ _ npb P;replace Q:=F1 _ _ nqb Q;replace F:=F.trans F1;clear B1 F1;simp only[go_sem];refine bU so3 Q ⟨Nat.zero_lt_one,rfl,Nat.le_of_ble_eq_true rfl⟩ fun G Q1 F1=>?_
 replace B:=F1 _ _ nqb.symm B;replace P:=F1 _ _ npq P;replace F:=F.put hq F1;replace Q:G q=some (oR [str x0,.sl (x1.map D.aY),int x2.place,int x2.start,int x2.close,int x2.service,int x3.place,int x3.start,int x3.close,int x3.service,int x4]):=Q1;clear Q1 F1;simp only[go_sem];refine(fY B ok).use (fun x5 l5 G1 ⟨e,o5⟩ B1 F1=>?_) (fun G1 e F1=>h0 _ (fun v r h=>e _ _ ⟨congrArg (List.drop 5) h.1,h.2.1.penalty⟩) (F.trans F1));have s5:=(e▸ok).sz;replace ok:=(e▸ok).tl;subst e;replace B:=B1;replace P:=F1 _ _ npb P;replace Q:=F1 _ _ nqb Q;replace F:=F.trans F1;clear B1 F1;simp only[go_sem];refine bU so3 Q ⟨Nat.zero_lt_one,rfl,Nat.le_of_ble_eq_true rfl⟩ fun G Q1 F1=>?_
 replace B:=F1 _ _ nqb.symm B;replace P:=F1 _ _ npq P;replace F:=F.put hq F1;replace Q:G q=some (oR [str x0,.sl (x1.map D.aY),int x2.place,int x2.start,int x2.close,int x2.service,int x3.place,int x3.start,int x3.close,int x3.service,int x4,int x5]):=Q1;clear Q1 F1;simp only[go_sem];refine(fY B ok).use (fun x6 l6 G1 ⟨e,o6⟩ B1 F1=>?_) (fun G1 e F1=>h0 _ (fun v r h=>e _ _ ⟨congrArg (List.drop 6) h.1,h.2.1.split⟩) (F.trans F1));have s6:=(e▸ok).sz;replace ok:=(e▸ok).tl;subst e;replace B:=B1;replace P:=F1 _ _ npb P;replace Q:=F1 _ _ nqb Q;replace F:=F.trans F1;clear B1 F1;simp only[go_sem];refine bU so3 Q ⟨Nat.zero_lt_one,rfl,Nat.le_of_ble_eq_true rfl⟩ fun G Q1 F1=>?_
 replace B:=F1 _ _ nqb.symm B;replace P:=F1 _ _ npq P;replace F:=F.put hq F1;replace Q:G q=some (oR [str x0,.sl (x1.map D.aY),int x2.place,int x2.start,int x2.close,int x2.service,int x3.place,int x3.start,int x3.close,int x3.service,int x4,int x5,int x6]):=Q1;clear Q1 F1;simp only[go_sem];refine(fY B ok).use (fun x7 l7 G1 ⟨e,o7⟩ B1 F1=>?_) (fun G1 e F1=>h0 _ (fun v r h=>e _ _ ⟨congrArg (List.drop 7) h.1,h.2.1.last⟩) (F.trans F1));have s7:=(e▸ok).sz;replace ok:=(e▸ok).tl;subst e;replace B:=B1;replace P:=F1 _ _ npb P;replace Q:=F1 _ _ nqb Q;replace F:=F.trans F1;clear B1 F1;simp only[go_sem];refine bU so3 Q ⟨Nat.zero_lt_one,rfl,Nat.le_of_ble_eq_true rfl⟩ fun G Q1 F1=>?_
 replace B:=F1 _ _ nqb.symm B;replace P:=F1 _ _ npq P;replace F:=F.put hq F1;replace Q:G q=some (oR [str x0,.sl (x1.map D.aY),int x2.place,int x2.start,int x2.close,int x2.service,int x3.place,int x3.start,int x3.close,int x3.service,int x4,int x5,int x6,int x7]):=Q1;clear Q1 F1;simp only[go_sem];refine(fY B ok).use (fun x8 l8 G1 ⟨e,o8⟩ B1 F1=>?_) (fun G1 e F1=>h0 _ (fun v r h=>e _ _ ⟨congrArg (List.drop 8) h.1,h.2.1.now⟩) (F.trans F1));have s8:=(e▸ok).sz;replace ok:=(e▸ok).tl;subst e;replace B:=B1;replace P:=F1 _ _ npb P;replace Q:=F1 _ _ nqb Q;replace F:=F.trans F1;clear B1 F1;simp only[go_sem];refine bU so3 Q ⟨Nat.zero_lt_one,rfl,Nat.le_of_ble_eq_true rfl⟩ fun G Q1 F1=>?_
 replace B:=F1 _ _ nqb.symm B;replace P:=F1 _ _ npq P;replace F:=F.put hq F1;replace Q:G q=some (oR [str x0,.sl (x1.map D.aY),int x2.place,int x2.start,int x2.close,int x2.service,int x3.place,int x3.start,int x3.close,int x3.service,int x4,int x5,int x6,int x7,int x8]):=Q1;clear Q1 F1;simp only[go_sem];refine(yQ B ok).use (fun x9 l9 G1 ⟨e,o9⟩ B1 F1=>?_) (fun G1 e F1=>h0 _ (fun v r h=>e _ _ ⟨congrArg (List.drop 9) h.1,Ip _⟩) (F.trans F1));have s9:=(e▸ok).sz;replace ok:=(e▸ok).tl;subst e;replace B:=B1;replace P:=F1 _ _ npb P;replace Q:=F1 _ _ nqb Q;replace F:=F.trans F1;clear B1 F1;simp only[go_sem];refine eR (fun ρ' G'=>∃z:Bool,x9=onS z∧ρ' 2=.op p 0 0∧ρ' 3=.op q 0 0∧G' b=some (jU l9)∧Fr b H G'∧G' p=some ⟨64,16,[aB ⟨⟨#[]⟩,[],⟨0,0,0,0⟩,⟨0,0,0,0⟩,0,0,0,0,0,false⟩]⟩∧G' q=some ⟨64,16,[aB ⟨x0,x1,x2,x3,x4,x5,x6,x7,x8,z⟩]⟩) ?_ fun Q' hQ' _ _=>?_
 ·rintro ρ' G' ⟨z,rfl,e2,e3,B,F,P,Q⟩;simp only[go_sem,e2,e3,Q];refine bF P ⟨Nat.zero_lt_one,rfl,Nat.le_of_ble_eq_true rfl⟩ fun G P1 F1=>?_
  replace B:=F1 _ _ npb.symm B;replace F:=F.put hp F1;simp only[go_sem,e2,P1];exact h1 ⟨x0,x1,x2,x3,x4,x5,x6,x7,x8,z⟩ l9 G ⟨rfl,⟨show x0.size≤1048576 by omega,show x1.length≤1048576 by have:=uA x1;omega,o1,o2,o3,o4,o5,o6,o7,o8⟩,o0⟩ B F
 refine aA (fun hz=>?_) (fun hz=>?_)
 ·simp only[go_sem];exact hQ' _ _ ⟨false,gI hz,by simp only[go_sem],by simp only[go_sem],B,F,P,Q⟩
 simp only[go_sem];refine aA (fun hz'=>?_) (fun hz'=>?_)
 ·simp only[go_sem];refine bU so4 Q ⟨Nat.zero_lt_one,rfl,Nat.le_of_ble_eq_true rfl⟩ fun G1 Q1 F1=>?_
  simp only[go_sem];exact hQ' _ _ ⟨true,gI hz',by simp only[go_sem],by simp only[go_sem],F1 _ _ nqb.symm B,F.put hq F1,F1 _ _ npq P,Q1⟩
 ·simp only[go_sem];refine qL (h0 _ (fun v r h=>?_) F);have hx:x9=onS v.off:=(List.cons.inj (congrArg (List.drop 9) h.1)).1;cases hv:v.off with
  | false=>rw[hv]at hx;exact qC hz hx
  | true=>rw[hv]at hx;exact qC hz' hx
end
end Sp
end Go.Proofs.YthbiheckeoknlaaGreatDoor
section
namespace Go.Aw
theorem DP.mono{P:Program}{g:FuncId}{cap:List AV}{pv:Value}{H:aC}{R R':aC→Prop}(h:DP P g cap pv H R)(hr:∀H',R H'→R' H'):DP P g cap pv H R':=fun S w vals hS ha=>tC (h S w vals hS ha) fun e u' w' ⟨v,S',H',h1,h2,h3,h4⟩=>⟨v,S',H',h1,h2,hr _ h3,h4⟩
end Go.Aw
namespace Go.Proofs.YthbiheckeoknlaaGreatDoor.Sp
open Go.Aw Go.Aw.D Go.Proofs Ty
open Go.Proofs.YthbiheckeoknlaaGreatDoor
open Go.Proofs.YthbiheckeoknlaaGreatDoor.Nw (ltB geB cB)
open Go.Proofs.YthbiheckeoknlaaGreatDoor.Sk
open Go.Proofs.YthbiheckeoknlaaGreatDoor.Sc
structure SmallX(x:Instance):Prop where
 pl:x.net.places.length≤100000
 al:x.net.arcs.length≤100000
 tl:x.types.length≤100000
 ol:x.orders.length≤100000
 ap:x.apart.length≤100000
 be:x.before.length≤100000
abbrev W(i:Nat):ByteArray:=eJ.getD i ⟨#[]⟩
def NoL(l:List ByteArray):Prop:=∀it:Sk.Item,qD it→l≠it.word::it.words
theorem lL{it:Sk.Item}{i:Nat}(hi:i<7)(h:W i=it.word):it.rank=i:=by
 have:=xZ i hi it.rank it.rank_lt;have e:((eJ.getD it.rank ⟨#[]⟩).toList == (eJ.getD i ⟨#[]⟩).toList)=true:=by rw[show eJ.getD it.rank ⟨#[]⟩=W i from h.symm];exact beq_self_eq_true _
 rw[e]at this;exact of_decide_eq_true this.symm
def RD:List Nat:=[1,6,14,10,2,2,0]
theorem EV(it:Sk.Item):it.words.length=RD.getD it.rank 0:=by cases it <;> rfl
section
variable{w:ByteArray}{l:List ByteArray}
theorem AW(hw:w=W 0)(h:∀s:ByteArray,aW s=true→l≠(Sk.Item.place s).words):NoL (w::l):=fun it ok e=>by have hr:=lL (i:=0) (by decide) (hw.symm.trans (List.cons.inj e).1);cases it <;> first|exact h _ ok (List.cons.inj e).2|exact absurd hr (by simp[Sk.Item.rank])
theorem uZ(hw:w=W 1)(h:∀s:Arc,OkArc s→l≠(Sk.Item.arc s).words):NoL (w::l):=fun it ok e=>by have hr:=lL (i:=1) (by decide) (hw.symm.trans (List.cons.inj e).1);cases it <;> first|exact h _ ok (List.cons.inj e).2|exact absurd hr (by simp[Sk.Item.rank])
theorem E7(hw:w=W 2)(h:∀s:VType,OkType s∧aW s.name=true→l≠(Sk.Item.type s).words):NoL (w::l):=fun it ok e=>by have hr:=lL (i:=2) (by decide) (hw.symm.trans (List.cons.inj e).1);cases it <;> first|exact h _ ok (List.cons.inj e).2|exact absurd hr (by simp[Sk.Item.rank])
theorem BR(hw:w=W 3)(h:∀s:Order,OkOrder s∧aW s.name=true→l≠(Sk.Item.order s).words):NoL (w::l):=fun it ok e=>by have hr:=lL (i:=3) (by decide) (hw.symm.trans (List.cons.inj e).1);cases it <;> first|exact h _ ok (List.cons.inj e).2|exact absurd hr (by simp[Sk.Item.rank])
theorem pR(hw:w=W 4)(h:∀s:Pair,kZ s→l≠(Sk.Item.apart s).words):NoL (w::l):=fun it ok e=>by have hr:=lL (i:=4) (by decide) (hw.symm.trans (List.cons.inj e).1);cases it <;> first|exact h _ ok (List.cons.inj e).2|exact absurd hr (by simp[Sk.Item.rank])
theorem mV(hw:w=W 5)(h:∀s:Pair,kZ s→l≠(Sk.Item.before s).words):NoL (w::l):=fun it ok e=>by have hr:=lL (i:=5) (by decide) (hw.symm.trans (List.cons.inj e).1);cases it <;> first|exact h _ ok (List.cons.inj e).2|exact absurd hr (by simp[Sk.Item.rank])
end
def JX(H:aC)(b:Nat)(n:Nat→Nat)(p c:Nat)(y:Instance)(l:List ByteArray)(H':aC):Prop:=∃n',IH H' b n' y∧H' c=some (jU l)∧H' p=some ⟨3,1,[[int 0]]⟩∧Off b n' p∧∀k row,Off b n k→H k=some row→H' k=some row∧Off b n' k∧k≠p
section
variable{H G G':aC}{b c:Nat}{n:Nat→Nat}{x y:Instance}{l:List ByteArray}
theorem jx{Gw G2 G3:aC}{p j j':Nat}(I:IH Gw b n x)(hj:j<6)(kk:∀k row,Off b n k→H k=some row→Gw k=some row∧k≠p∧k≠c)(op:Off b n p)(oc:Off b n c)(C:Gw c=some (jU l))(P:Gw p=some ⟨3,1,[[int 0]]⟩)
  (A:G2 j'=some (dC y j)) (N2:∀k row,k≠n j→Gw k=some row→k≠j'∧G2 k=some row) (hy:∀i<6,i≠j→dC y i=dC x i) (B3:G3 b=some (nL (Cx n j j'))) (F3:Fr b G2 G3):JX H b n p c y l G3:=by
 have ks:=CU (x:=x) hj N2 F3;refine⟨Cx n j j',I.step hj A N2 hy B3 F3,(ks c _ oc C).1,(ks p _ op P).1,(ks p _ op P).2,fun k row o h=>?_⟩;obtain⟨h1,h2,_⟩:=kk k row o h;obtain⟨h3,h4⟩:=ks k row o h1;exact⟨h3,h4,h2⟩
theorem JX.mono{p:Nat}{y:Instance}(h:JX H b n p c y l G)(S:Sup G G'):JX H b n p c y l G':=by obtain⟨n',I,C,P,op,kk⟩:=h;exact⟨n',⟨S _ _ I.row,fun i hi=>S _ _ (I.d i hi),I.nb,I.nn⟩,S _ _ C,S _ _ P,op,fun k row o hk=>⟨S _ _ (kk k row o hk).1,(kk k row o hk).2⟩⟩
theorem oI(v:List Point):v.length≤(eP v).size+1:=by
 by_cases h:v=[]
 ·subst h;exact Nat.zero_le _
 ·have:=fX 44 (v.map fQ);rw[List.length_map,←eX h]at this;exact this
def JQ(H:aC)(b:Nat)(n:Nat→Nat)(p c:Nat)(x:Instance)(w:ByteArray)(l:List ByteArray)(ρ':Env)(H':aC):Prop:=ρ' 4=.op p 0 0∧ρ' 7=.op c 0 0∧ρ' 8=str w ∧
 ((∃(it:Sk.Item) (r:List ByteArray),qD it∧w=it.word∧l=it.words++r∧JX H b n p c (eH x it) r H')∨((∀i<7,w≠W i)∧H' c=some (jU l)∧H' p=some ⟨3,1,[[int 0]]⟩∧∀k row,Off b n k→H k=some row→H' k=some row∧k≠p))
abbrev aR(a:List AV):Row:=⟨107,6,[a++(eF ⟨0,0,0,0,[],[]⟩).drop a.length]⟩
theorem SA(w:ByteArray)(h:∀i<7,w≠W i):PC Tryz.prog 31 [str w] (int 0):=by
 refine pcd Tryz.func31 rfl rfl ?_;simp only[go_sem];refine⟨fun ρ H=>∃k:Nat,k≤7∧ρ 0=str w∧ρ 5=.sl (eJ.map D.bE)∧ρ 6=int (7:Nat)∧ρ 7=int k,fun ρ _=>7-bO (ρ 7),⟨0,Nat.zero_le _,by simp only[go_sem],by simp only[go_sem];rfl,by simp only[go_sem],(by simp only[go_sem];rfl)⟩,?_⟩;rintro ρ H ⟨k,hk,e0,e5,e6,e7⟩;simp only[go_sem,e0,e5,e6,e7];refine aA (fun hlt=>?_) (fun hge=>?_)
 ·have hlt:k<7:=ltB hlt;have hlt:k<eJ.length:=hlt;have hl7:eJ.length=7:=rfl;have hg:eJ[k]?=some (W k):=by rw[W,List.getElem?_eq_getElem hlt,List.getD_eq_getElem?_getD,List.getElem?_eq_getElem hlt];rfl
  have b1:=inB hlt;simp only[go_sem,e0,e5,e6,e7,aM hg,b1];refine aA (fun hb=>absurd (gI hb).symm (h k hlt)) (fun _=>?_);simp only[go_sem,e0,e5,e6,e7,cH k];exact⟨⟨k+1,hlt,rfl⟩,by simp only[aE];omega⟩
 ·simp only[go_sem,e0,e5,e6,e7];exact .refl _
theorem Rh{K:AV→aC→Prop}(s:ByteArray)(I:IH H b n x)(hs:s.size≤65536)(hx:SmallX x)
  (h1:∀it H' n',qD it→s=aG spB (it.word::it.words)→IH H' b n' (eH x it)→RF b n n' H H'→K (int (it.rank+1:Nat)) H')
  (h0:(∀it,qD it→s≠aG spB (it.word::it.words))→∀H',(∀k row,Off b n k→H k=some row→H' k=some row)→K (int 0) H'):cK Tryz.prog 30 [str s,.op b 0 0] H K:=by
 refine cK.bodyD (l:=none) (g:=62) (fun t=>t == 20) nO mixed Tryz.func30 (by kernel_rfl) rfl (by kernel_rfl) (by kernel_rfl) (by kernel_rfl) rfl (by kernel_rfl) (by decide) (by decide) (by decide) ?_;simp only[go_sem];refine aL fun p G hp (P:G p=some ⟨3,1,[[int 0]]⟩) N=>?_
 obtain⟨I,op⟩:=I.new N;have kk:∀k row,Off b n k→H k=some row→G k=some row∧k≠p:=fun k row o h=>⟨(N h).2,(N h).1⟩
 clear N;simp only[go_sem];refine⟨fun H'=>H' p=some ⟨3,1,[[int 0]]⟩∧(∀k row,Off b n k→H k=some row→H' k=some row)∧∀it,qD it→s≠aG spB (it.word::it.words),fun H' hz=>(QA hz.1).mono fun H2 ⟨P2,F2⟩=>?_,?_⟩
 ·simp only[go_sem,P2];exact h0 hz.2.2 H2 fun k row o h=>F2 _ _ (fun e=>by rw[e,hp]at h;cases h) (hz.2.1 k row o h)
 refine((Et s (by omega)).use ?_).x;rintro _ ⟨l,e,⟨q1,q2,q3,q4⟩,rfl⟩;have noL:NoL l→∀it,qD it→s≠aG spB (it.word::it.words):=fun h it ok hj=>h it ok (q2 _ ⟨by simp,mF ok,hj⟩).2
 simp only[go_sem];refine aA (fun he=>?_) (fun he=>?_)
 ·simp only[go_sem];refine bU so3 P ⟨Nat.zero_lt_one,rfl,Nat.le_of_ble_eq_true rfl⟩ fun G2 P2 F2=>?_
  rw[show Tryz.f30.results.toList=[ResultVar.cell 4 3]by rfl];simp only[go_sem,P2];refine⟨h0 (fun it ok hj=>?_) G2 fun k row o h=>F2 _ _ (kk k row o h).2 (kk k row o h).1,EA _ _⟩;have:=(q2 _ ⟨by simp,mF ok,hj⟩).1;rw[this]at he;exact absurd he (by decide)
 have he:e=0:=by simpa using he
 have q1:=q1 he;have ok:OkL l:=⟨fun p hp=>⟨q1 p hp,by have:=(q4 he).2 p hp;omega⟩,by have:=(q4 he).1;omega⟩;simp only[go_sem];refine aL fun c G1 hc (C:G1 c=some (jU l)) N=>?_
 obtain⟨I,oc⟩:=I.new N;obtain⟨npc,P⟩:=N P;replace kk:∀k row,Off b n k→H k=some row→G1 k=some row∧k≠p∧k≠c:=fun k row o h=>⟨(N (kk k row o h).1).2,(kk k row o h).2,(N (kk k row o h).1).1⟩
 clear N;simp only[go_sem];refine(yQ C ok).use (fun w l0 G ⟨e,ow⟩ C1 F=>?_) (fun G e F=>⟨F _ _ npc P,fun k row o h=>F _ _ (kk k row o h).2.2 (kk k row o h).1,noL fun it oi h=>e _ _ ⟨h,mF oi _ (by simp)⟩⟩);subst e;replace C:=C1;clear C1;replace ok:=ok.tl;have hj:(∀v∈w::l0,aW v=true)→s=aG spB (w::l0):=fun h=>(q3 he (by simp) h).2.2
 replace I:=I.fr F oc;replace P:=F _ _ npc P;replace kk:∀k row,Off b n k→H k=some row→G k=some row∧k≠p∧k≠c:=fun k row o h=>⟨F _ _ (kk k row o h).2.2 (kk k row o h).1,(kk k row o h).2⟩
 clear F hc q2 q3 q4 q1;simp only[go_sem];refine eR (JQ H b n p c x w l0) (fun ρ' H' h=>?_) fun Q' hQ' _ _=>?_
 ·obtain⟨e4,e7,e8,h⟩:=h;rcases h with⟨it,r,oi,rfl,rfl,n',I',C',P',op',kk'⟩|⟨hw,C',P',kk'⟩
  ·simp only[go_sem,e4,e7,e8,C'];refine aA (fun hr=>?_) (fun hr=>?_)
   ·simp only[go_sem];refine qL ⟨P',fun k row o h=>(kk' k row o h).1,noL fun it' oi' h=>?_⟩;have hr':=lL it.rank_lt (List.cons.inj h).1;have:=congrArg List.length (List.cons.inj h).2;rw[List.length_append,EV,EV,hr']at this;have h2:0<r.length:=by simpa using hr
    omega
   have hr:r=[]:=List.eq_nil_of_length_eq_zero (by
    have:¬(0<r.length):=by simpa using hr
    omega)
   subst hr;simp only[go_sem,e4,e7,e8];refine(PC.use (ON it.rank it.rank_lt) ?_).x;simp only[go_sem,e4,e7,e8];refine bU so3 P' ⟨Nat.zero_lt_one,rfl,Nat.le_of_ble_eq_true rfl⟩ fun G2 P2 F2=>?_
   rw[show Tryz.f30.results.toList=[ResultVar.cell 4 3]by rfl];simp only[go_sem,e4,P2];refine⟨h1 it G2 n' oi ?_ (I'.fr F2 op') fun k row o h=>?_,EA _ _⟩
   ·rw[List.append_nil]at hj;exact hj (mF oi)
   obtain⟨h1,h2,h3⟩:=kk' k row o h;exact⟨F2 _ _ h3 h1,h2⟩
  ·have no:NoL (w::l0):=fun it oi h=>hw it.rank it.rank_lt (List.cons.inj h).1
   simp only[go_sem,e4,e7,e8,C'];refine aA (fun hr=>?_) (fun hr=>?_)
   ·simp only[go_sem];exact qL ⟨P',fun k row o h=>(kk' k row o h).1,noL no⟩
   simp only[go_sem,e4,e7,e8];refine(PC.use (SA w hw) ?_).x;simp only[go_sem,e4,e7,e8];refine bU so3 P' ⟨Nat.zero_lt_one,rfl,Nat.le_of_ble_eq_true rfl⟩ fun G2 P2 F2=>?_
   rw[show Tryz.f30.results.toList=[ResultVar.cell 4 3]by rfl];simp only[go_sem,e4,P2];exact⟨h0 (noL no) G2 fun k row o h=>F2 _ _ (kk' k row o h).2 (kk' k row o h).1,EA _ _⟩
 refine aA (fun hw0=>?_) (fun hw0=>?_)
 ·have hw:w=W 0:=gI hw0;simp only[go_sem];refine tG [] (.q 0 (.q 1 (.q 2 (.q 3 (.q 4 (.q 6 (.a2 5 (.a1 7 (.a1 8 (.a1 9 (.q 10 (.q 11 (.q 12 (.a1 13 .nil))))))) 7 (.a2 5 (.a1 8 (.a1 9 (.q 10 (.q 11 (.q 12 (.a1 13 .nil)))))) 8 (.a1 5 (.a1 9 (.q 10 (.q 11 (.q 12 (.a1 13 .nil)))))))))))))) (JQ H b n p c x w _) (by simp) (by kernel_rfl) (fun K' hK' Hp Hr _ hr _ _=>?_) hQ'
  ·obtain rfl:Hr=G:=funext fun k=>hr k (by simp)
   simp only[go_sem,I.row];refine⟨?_,?_⟩
   ·simp only[go_sem,I.row];refine(yQ C ok).use (fun x0 l1 G ⟨e,o0⟩ C1 F=>?_) (fun G e F=>⟨F _ _ npc P,fun k row o h=>F _ _ (kk k row o h).2.2 (kk k row o h).1,noL (AW hw fun s hs h=>e s [] ⟨h,hs⟩)⟩);have ok1:=ok;rw[e]at ok1;replace ok:=ok1.tl;clear ok1;subst e;replace C:=C1;clear C1;replace kk:∀k row,Off b n k→H k=some row→G k=some row∧k≠p∧k≠c:=fun k row o h=>⟨F _ _ (kk k row o h).2.2 (kk k row o h).1,(kk k row o h).2⟩
    replace I:=I.fr F oc;replace P:=F _ _ npc P;clear F;simp only[go_sem,I.row];refine mH (I.d 0 (by decide)) ⟨rfl,rfl⟩ (by simp only[go_sem]) (by simp only[dC,List.length_map,List.length_cons,List.length_nil];have:=hx.pl;omega) fun j' G2 A N2=>?_
    have B:=(N2 b _ (I.nb 0 (by decide)).symm I.row).2;simp only[go_sem,B];refine bU NE B ⟨Nat.zero_lt_one,rfl,Nat.le_of_ble_eq_true rfl⟩ fun G3 B3 F3=>?_
    simp only[go_sem];refine cV fun _ Hm _ hm2=>?_
    obtain rfl:Hm=G3:=funext fun k=>hm2 k (by simp)
    refine hK' _ _ ⟨by simp only[go_sem],by simp only[go_sem],by simp only[go_sem],.inl ⟨.place x0,l1,o0,hw,rfl,jx (j:=0) I (by decide) kk op oc C P (A.trans ?_) N2 (fun i hi hne=>?_) B3 F3⟩⟩
    ·simp only[dC,eH,cA,Sk.eD,Sk.gE,Sk.gF,Sk.eN,List.map_append];rfl
    ·have:i=0∨i=1∨i=2∨i=3∨i=4∨i=5:=by omega
     rcases this with rfl|rfl|rfl|rfl|rfl|rfl <;> first|rfl|exact absurd rfl hne
   ·simp only[go_sem,I.row];refine(yQ C ok).use (fun x0 l1 G ⟨e,o0⟩ C1 F=>?_) (fun G e F=>⟨F _ _ npc P,fun k row o h=>F _ _ (kk k row o h).2.2 (kk k row o h).1,noL (AW hw fun s hs h=>e s [] ⟨h,hs⟩)⟩);have ok1:=ok;rw[e]at ok1;replace ok:=ok1.tl;clear ok1;subst e;replace C:=C1;clear C1;replace kk:∀k row,Off b n k→H k=some row→G k=some row∧k≠p∧k≠c:=fun k row o h=>⟨F _ _ (kk k row o h).2.2 (kk k row o h).1,(kk k row o h).2⟩
    replace I:=I.fr F oc;replace P:=F _ _ npc P;clear F;simp only[go_sem,I.row];refine⟨?_,?_⟩
    all_goals
     simp only[go_sem,I.row];refine mH (I.d 0 (by decide)) ⟨rfl,rfl⟩ (by simp only[go_sem]) (by simp only[dC,List.length_map,List.length_cons,List.length_nil];have:=hx.pl;omega) fun j' G2 A N2=>?_
     have B:=(N2 b _ (I.nb 0 (by decide)).symm I.row).2;simp only[go_sem,B];refine bU NE B ⟨Nat.zero_lt_one,rfl,Nat.le_of_ble_eq_true rfl⟩ fun G3 B3 F3=>?_
     simp only[go_sem];refine cV fun _ Hm _ hm2=>?_
     obtain rfl:Hm=G3:=funext fun k=>hm2 k (by simp)
     refine hK' _ _ ⟨by simp only[go_sem],by simp only[go_sem],by simp only[go_sem],.inl ⟨.place x0,l1,o0,hw,rfl,jx (j:=0) I (by decide) kk op oc C P (A.trans ?_) N2 (fun i hi hne=>?_) B3 F3⟩⟩
     ·simp only[dC,eH,cA,Sk.eD,Sk.gE,Sk.gF,Sk.eN,List.map_append];rfl
     ·have:i=0∨i=1∨i=2∨i=3∨i=4∨i=5:=by omega
      rcases this with rfl|rfl|rfl|rfl|rfl|rfl <;> first|rfl|exact absurd rfl hne
 simp only[go_sem];refine aA (fun hw1=>?_) (fun hw1=>?_)
 ·have hw:w=W 1:=gI hw1;simp only[go_sem];refine aL fun q G2 hq (Q:G2 q=some (aR [])) N=>?_
  replace kk:∀k row,Off b n k→H k=some row→G2 k=some row∧k≠p∧k≠c∧k≠q:=fun k row o h=>⟨(N (kk k row o h).1).2,(kk k row o h).2.1,(kk k row o h).2.2,(N (kk k row o h).1).1⟩
  obtain⟨I,oq⟩:=I.new N;obtain⟨npq,P⟩:=N P;obtain⟨ncq,C⟩:=N C;clear N hq;simp only[go_sem];refine(fY C ok).use (fun x0 l1 G ⟨e,o0⟩ C1 F=>?_) (fun G e F=>⟨F _ _ npc P,fun k row o h=>F _ _ (kk k row o h).2.2.1 (kk k row o h).1,noL (uZ hw fun a ha h=>e _ _ ⟨congrArg (List.drop 0) h,ha.src⟩)⟩);have s0:=(e▸ok).sz;replace ok:=(e▸ok).tl;subst e;replace C:=C1;clear C1;replace kk:∀k row,Off b n k→H k=some row→G k=some row∧k≠p∧k≠c∧k≠q:=fun k row o h=>⟨F _ _ (kk k row o h).2.2.1 (kk k row o h).1,(kk k row o h).2⟩
  replace I:=I.fr F oc;replace P:=F _ _ npc P;replace Q:=F _ _ ncq.symm Q;clear F;simp only[go_sem];refine bU so3 Q ⟨Nat.zero_lt_one,rfl,Nat.le_of_ble_eq_true rfl⟩ fun G Q1 F=>?_
  replace kk:∀k row,Off b n k→H k=some row→G k=some row∧k≠p∧k≠c∧k≠q:=fun k row o h=>⟨F _ _ (kk k row o h).2.2.2 (kk k row o h).1,(kk k row o h).2⟩
  replace I:=I.fr F oq;replace P:=F _ _ npq P;replace C:=F _ _ ncq C;replace Q:G q=some (aR [int x0]):=Q1;clear F Q1;simp only[go_sem];refine(fY C ok).use (fun x1 l2 G ⟨e,o1⟩ C1 F=>?_) (fun G e F=>⟨F _ _ npc P,fun k row o h=>F _ _ (kk k row o h).2.2.1 (kk k row o h).1,noL (uZ hw fun a ha h=>e _ _ ⟨congrArg (List.drop 1) h,ha.dst⟩)⟩);have s1:=(e▸ok).sz;replace ok:=(e▸ok).tl;subst e;replace C:=C1;clear C1;replace kk:∀k row,Off b n k→H k=some row→G k=some row∧k≠p∧k≠c∧k≠q:=fun k row o h=>⟨F _ _ (kk k row o h).2.2.1 (kk k row o h).1,(kk k row o h).2⟩
  replace I:=I.fr F oc;replace P:=F _ _ npc P;replace Q:=F _ _ ncq.symm Q;clear F;simp only[go_sem];refine bU so3 Q ⟨Nat.zero_lt_one,rfl,Nat.le_of_ble_eq_true rfl⟩ fun G Q1 F=>?_
  replace kk:∀k row,Off b n k→H k=some row→G k=some row∧k≠p∧k≠c∧k≠q:=fun k row o h=>⟨F _ _ (kk k row o h).2.2.2 (kk k row o h).1,(kk k row o h).2⟩
  replace I:=I.fr F oq;replace P:=F _ _ npq P;replace C:=F _ _ ncq C;replace Q:G q=some (aR [int x0,int x1]):=Q1;clear F Q1;simp only[go_sem];refine(fY C ok).use (fun x2 l3 G ⟨e,o2⟩ C1 F=>?_) (fun G e F=>⟨F _ _ npc P,fun k row o h=>F _ _ (kk k row o h).2.2.1 (kk k row o h).1,noL (uZ hw fun a ha h=>e _ _ ⟨congrArg (List.drop 2) h,ha.profile⟩)⟩);have s2:=(e▸ok).sz;replace ok:=(e▸ok).tl;subst e;replace C:=C1;clear C1;replace kk:∀k row,Off b n k→H k=some row→G k=some row∧k≠p∧k≠c∧k≠q:=fun k row o h=>⟨F _ _ (kk k row o h).2.2.1 (kk k row o h).1,(kk k row o h).2⟩
  replace I:=I.fr F oc;replace P:=F _ _ npc P;replace Q:=F _ _ ncq.symm Q;clear F;simp only[go_sem];refine bU so3 Q ⟨Nat.zero_lt_one,rfl,Nat.le_of_ble_eq_true rfl⟩ fun G Q1 F=>?_
  replace kk:∀k row,Off b n k→H k=some row→G k=some row∧k≠p∧k≠c∧k≠q:=fun k row o h=>⟨F _ _ (kk k row o h).2.2.2 (kk k row o h).1,(kk k row o h).2⟩
  replace I:=I.fr F oq;replace P:=F _ _ npq P;replace C:=F _ _ ncq C;replace Q:G q=some (aR [int x0,int x1,int x2]):=Q1;clear F Q1;simp only[go_sem];refine(fY C ok).use (fun x3 l4 G ⟨e,o3⟩ C1 F=>?_) (fun G e F=>⟨F _ _ npc P,fun k row o h=>F _ _ (kk k row o h).2.2.1 (kk k row o h).1,noL (uZ hw fun a ha h=>e _ _ ⟨congrArg (List.drop 3) h,ha.miles⟩)⟩);have s3:=(e▸ok).sz;replace ok:=(e▸ok).tl;subst e;replace C:=C1;clear C1;replace kk:∀k row,Off b n k→H k=some row→G k=some row∧k≠p∧k≠c∧k≠q:=fun k row o h=>⟨F _ _ (kk k row o h).2.2.1 (kk k row o h).1,(kk k row o h).2⟩
  replace I:=I.fr F oc;replace P:=F _ _ npc P;replace Q:=F _ _ ncq.symm Q;clear F;simp only[go_sem];refine bU so3 Q ⟨Nat.zero_lt_one,rfl,Nat.le_of_ble_eq_true rfl⟩ fun G Q1 F=>?_
  replace kk:∀k row,Off b n k→H k=some row→G k=some row∧k≠p∧k≠c∧k≠q:=fun k row o h=>⟨F _ _ (kk k row o h).2.2.2 (kk k row o h).1,(kk k row o h).2⟩
  replace I:=I.fr F oq;replace P:=F _ _ npq P;replace C:=F _ _ ncq C;replace Q:G q=some (aR [int x0,int x1,int x2,int x3]):=Q1;clear F Q1;simp only[go_sem];refine(IT C ok).use (fun x4 l5 G ⟨e,o4⟩ C1 F=>?_) (fun G e F=>⟨F _ _ npc P,fun k row o h=>F _ _ (kk k row o h).2.2.1 (kk k row o h).1,noL (uZ hw fun a ha h=>e _ _ ⟨congrArg (List.drop 4) h,ha.travel⟩)⟩);have s4:=(e▸ok).sz;replace ok:=(e▸ok).tl;subst e;replace C:=C1;clear C1;replace kk:∀k row,Off b n k→H k=some row→G k=some row∧k≠p∧k≠c∧k≠q:=fun k row o h=>⟨F _ _ (kk k row o h).2.2.1 (kk k row o h).1,(kk k row o h).2⟩
  replace I:=I.fr F oc;replace P:=F _ _ npc P;replace Q:=F _ _ ncq.symm Q;clear F;simp only[go_sem];refine bU ND Q ⟨Nat.zero_lt_one,rfl,Nat.le_of_ble_eq_true rfl⟩ fun G Q1 F=>?_
  replace kk:∀k row,Off b n k→H k=some row→G k=some row∧k≠p∧k≠c∧k≠q:=fun k row o h=>⟨F _ _ (kk k row o h).2.2.2 (kk k row o h).1,(kk k row o h).2⟩
  replace I:=I.fr F oq;replace P:=F _ _ npq P;replace C:=F _ _ ncq C;replace Q:G q=some (aR [int x0,int x1,int x2,int x3,.sl (x4.map bL)]):=Q1;clear F Q1;simp only[go_sem];refine(IT C ok).use (fun x5 l6 G ⟨e,o5⟩ C1 F=>?_) (fun G e F=>⟨F _ _ npc P,fun k row o h=>F _ _ (kk k row o h).2.2.1 (kk k row o h).1,noL (uZ hw fun a ha h=>e _ _ ⟨congrArg (List.drop 5) h,ha.slow⟩)⟩);have s5:=(e▸ok).sz;replace ok:=(e▸ok).tl;subst e;replace C:=C1;clear C1;replace kk:∀k row,Off b n k→H k=some row→G k=some row∧k≠p∧k≠c∧k≠q:=fun k row o h=>⟨F _ _ (kk k row o h).2.2.1 (kk k row o h).1,(kk k row o h).2⟩
  replace I:=I.fr F oc;replace P:=F _ _ npc P;replace Q:=F _ _ ncq.symm Q;clear F;simp only[go_sem];refine bU ND Q ⟨Nat.zero_lt_one,rfl,Nat.le_of_ble_eq_true rfl⟩ fun G Q1 F=>?_
  replace kk:∀k row,Off b n k→H k=some row→G k=some row∧k≠p∧k≠c∧k≠q:=fun k row o h=>⟨F _ _ (kk k row o h).2.2.2 (kk k row o h).1,(kk k row o h).2⟩
  replace I:=I.fr F oq;replace P:=F _ _ npq P;replace C:=F _ _ ncq C;replace Q:G q=some (aR [int x0,int x1,int x2,int x3,.sl (x4.map bL),.sl (x5.map bL)]):=Q1;clear F Q1;simp only[go_sem];replace Q:G q=some ⟨107,6,[eF ⟨x0,x1,x2,x3,x4,x5⟩]⟩:=Q;refine tG [q] (.q 0 (.q 1 (.q 2 (.q 3 (.q 4 (.q 6 (.a2 5 (.a1 7 (.a1 8 (.q 9 (.q 10 (.q 11 (.a1 12 .nil)))))) 7 (.a1 5 (.a1 8 (.q 9 (.q 10 (.q 11 (.a1 12 .nil))))))))))))) (JQ H b n p c x w _) (by simp[Q]) (by kernel_rfl) (fun K' hK' Hp G1 hp hr _ _=>?_) hQ'
  ·have Q1:=(hp q (by simp)).trans Q;have F:Fr q G G1:=fun k row hk h=>(hr k (by simpa using hk)).trans h
   replace kk:∀k row,Off b n k→H k=some row→G1 k=some row∧k≠p∧k≠c:=fun k row o h=>⟨F _ _ (kk k row o h).2.2.2 (kk k row o h).1,(kk k row o h).2.1,(kk k row o h).2.2.1⟩
   replace I:=I.fr F oq;replace P:=F _ _ npq P;replace C:=F _ _ ncq C;clear F hr hp;simp only[go_sem,I.row,Q1];refine⟨?_,?_⟩
   all_goals
    simp only[go_sem,I.row,Q1];refine mH (I.d 1 (by decide)) ⟨rfl,rfl⟩ (by simp only[go_sem]) (by simp only[dC,List.length_map,List.length_cons,List.length_nil];have:=hx.al;omega) fun j' G2 A N2=>?_
    have B:=(N2 b _ (I.nb 1 (by decide)).symm I.row).2;simp only[go_sem,B];refine bU Sv B ⟨Nat.zero_lt_one,rfl,Nat.le_of_ble_eq_true rfl⟩ fun G3 B3 F3=>?_
    simp only[go_sem];refine cV fun h0 Hm _ hm2=>?_
    have S:Sup G3 Hm:=fun k row h=>(hm2 k (fun hk=>by rw[h0 k hk]at h;cases h)).trans h
    refine hK' _ _ ⟨by simp only[go_sem],by simp only[go_sem],by simp only[go_sem],.inl ⟨.arc ⟨x0,x1,x2,x3,x4,x5⟩,l6,⟨o0,o1,o2,o3,by show x4.length≤1048576;have:=oI x4;omega,o4,by show x5.length≤1048576;have:=oI x5;omega,o5⟩,hw,rfl,(jx (j:=1) I (by decide) kk op oc C P (A.trans ?_) N2 (fun i hi hne=>?_) B3 F3).mono S⟩⟩
    ·simp only[dC,eH,cA,Sk.eD,Sk.gE,Sk.gF,Sk.eN,List.map_append];rfl
    ·have:i=0∨i=1∨i=2∨i=3∨i=4∨i=5:=by omega
     rcases this with rfl|rfl|rfl|rfl|rfl|rfl <;> first|rfl|exact absurd rfl hne
 simp only[go_sem];refine aA (fun hw2=>?_) (fun hw2=>?_)
 ·have hw:w=W 2:=gI hw2;simp only[go_sem];refine tG [] (.q 0 (.q 1 (.q 2 (.q 3 (.q 5 (.a2 4 (.a1 6 (.a1 7 (.a1 8 (.q 9 (.q 10 (.a1 11 .nil)))))) 6 (.a2 4 (.a1 7 (.a1 8 (.q 9 (.q 10 (.a1 11 .nil))))) 7 (.a1 4 (.a1 8 (.q 9 (.q 10 (.a1 11 .nil)))))))))))) (JQ H b n p c x w _) (by simp) (by kernel_rfl) (fun K' hK' Hp Hr _ hr _ _=>?_) hQ'
  ·obtain rfl:Hr=G:=funext fun k=>hr k (by simp)
   simp only[go_sem,I.row];refine⟨?_,?_⟩
   ·simp only[go_sem,I.row];refine(OF C ok).use (fun x0 l1 G ⟨e,o0⟩ C1 F=>?_) (fun G e F=>⟨F _ _ npc P,fun k row o h=>F _ _ (kk k row o h).2.2 (kk k row o h).1,noL (E7 hw fun t ht h=>e t [] ⟨h.trans (List.append_nil _).symm,ht⟩)⟩);subst e;replace C:=C1;clear C1;replace kk:∀k row,Off b n k→H k=some row→G k=some row∧k≠p∧k≠c:=fun k row o h=>⟨F _ _ (kk k row o h).2.2 (kk k row o h).1,(kk k row o h).2⟩
    replace I:=I.fr F oc;replace P:=F _ _ npc P;clear F;simp only[go_sem,I.row];refine mH (I.d 2 (by decide)) ⟨rfl,rfl⟩ (by simp only[go_sem]) (by simp only[dC,List.length_map,List.length_cons,List.length_nil];have:=hx.tl;omega) fun j' G2 A N2=>?_
    have B:=(N2 b _ (I.nb 2 (by decide)).symm I.row).2;simp only[go_sem,B];refine bU QL B ⟨Nat.zero_lt_one,rfl,Nat.le_of_ble_eq_true rfl⟩ fun G3 B3 F3=>?_
    simp only[go_sem];refine cV fun _ Hm _ hm2=>?_
    obtain rfl:Hm=G3:=funext fun k=>hm2 k (by simp)
    refine hK' _ _ ⟨by simp only[go_sem],by simp only[go_sem],by simp only[go_sem],.inl ⟨.type x0,l1,o0,hw,rfl,jx (j:=2) I (by decide) kk op oc C P (A.trans ?_) N2 (fun i hi hne=>?_) B3 F3⟩⟩
    ·simp only[dC,eH,cA,Sk.eD,Sk.gE,Sk.gF,Sk.eN,List.map_append];rfl
    ·have:i=0∨i=1∨i=2∨i=3∨i=4∨i=5:=by omega
     rcases this with rfl|rfl|rfl|rfl|rfl|rfl <;> first|rfl|exact absurd rfl hne
   ·simp only[go_sem,I.row];refine(OF C ok).use (fun x0 l1 G ⟨e,o0⟩ C1 F=>?_) (fun G e F=>⟨F _ _ npc P,fun k row o h=>F _ _ (kk k row o h).2.2 (kk k row o h).1,noL (E7 hw fun t ht h=>e t [] ⟨h.trans (List.append_nil _).symm,ht⟩)⟩);subst e;replace C:=C1;clear C1;replace kk:∀k row,Off b n k→H k=some row→G k=some row∧k≠p∧k≠c:=fun k row o h=>⟨F _ _ (kk k row o h).2.2 (kk k row o h).1,(kk k row o h).2⟩
    replace I:=I.fr F oc;replace P:=F _ _ npc P;clear F;simp only[go_sem,I.row];refine⟨?_,?_⟩
    all_goals
     simp only[go_sem,I.row];refine mH (I.d 2 (by decide)) ⟨rfl,rfl⟩ (by simp only[go_sem]) (by simp only[dC,List.length_map,List.length_cons,List.length_nil];have:=hx.tl;omega) fun j' G2 A N2=>?_
     have B:=(N2 b _ (I.nb 2 (by decide)).symm I.row).2;simp only[go_sem,B];refine bU QL B ⟨Nat.zero_lt_one,rfl,Nat.le_of_ble_eq_true rfl⟩ fun G3 B3 F3=>?_
     simp only[go_sem];refine cV fun _ Hm _ hm2=>?_
     obtain rfl:Hm=G3:=funext fun k=>hm2 k (by simp)
     refine hK' _ _ ⟨by simp only[go_sem],by simp only[go_sem],by simp only[go_sem],.inl ⟨.type x0,l1,o0,hw,rfl,jx (j:=2) I (by decide) kk op oc C P (A.trans ?_) N2 (fun i hi hne=>?_) B3 F3⟩⟩
     ·simp only[dC,eH,cA,Sk.eD,Sk.gE,Sk.gF,Sk.eN,List.map_append];rfl
     ·have:i=0∨i=1∨i=2∨i=3∨i=4∨i=5:=by omega
      rcases this with rfl|rfl|rfl|rfl|rfl|rfl <;> first|rfl|exact absurd rfl hne
 simp only[go_sem];refine aA (fun hw3=>?_) (fun hw3=>?_)
 ·have hw:w=W 3:=gI hw3;simp only[go_sem];refine tG [] (.q 0 (.q 1 (.q 2 (.q 3 (.q 5 (.a2 4 (.a1 6 (.a1 7 (.a1 8 (.q 9 (.q 10 (.a1 11 .nil)))))) 6 (.a2 4 (.a1 7 (.a1 8 (.q 9 (.q 10 (.a1 11 .nil))))) 7 (.a1 4 (.a1 8 (.q 9 (.q 10 (.a1 11 .nil)))))))))))) (JQ H b n p c x w _) (by simp) (by kernel_rfl) (fun K' hK' Hp Hr _ hr _ _=>?_) hQ'
  ·obtain rfl:Hr=G:=funext fun k=>hr k (by simp)
   simp only[go_sem,I.row];refine⟨?_,?_⟩
   ·simp only[go_sem,I.row];refine(L0 C ok).use (fun x0 l1 G ⟨e,o0⟩ C1 F=>?_) (fun G e F=>⟨F _ _ npc P,fun k row o h=>F _ _ (kk k row o h).2.2 (kk k row o h).1,noL (BR hw fun t ht h=>e t [] ⟨h.trans (List.append_nil _).symm,ht⟩)⟩);subst e;replace C:=C1;clear C1;replace kk:∀k row,Off b n k→H k=some row→G k=some row∧k≠p∧k≠c:=fun k row o h=>⟨F _ _ (kk k row o h).2.2 (kk k row o h).1,(kk k row o h).2⟩
    replace I:=I.fr F oc;replace P:=F _ _ npc P;clear F;simp only[go_sem,I.row];refine mH (I.d 3 (by decide)) ⟨rfl,rfl⟩ (by simp only[go_sem]) (by simp only[dC,List.length_map,List.length_cons,List.length_nil];have:=hx.ol;omega) fun j' G2 A N2=>?_
    have B:=(N2 b _ (I.nb 3 (by decide)).symm I.row).2;simp only[go_sem,B];refine bU QR B ⟨Nat.zero_lt_one,rfl,Nat.le_of_ble_eq_true rfl⟩ fun G3 B3 F3=>?_
    simp only[go_sem];refine cV fun _ Hm _ hm2=>?_
    obtain rfl:Hm=G3:=funext fun k=>hm2 k (by simp)
    refine hK' _ _ ⟨by simp only[go_sem],by simp only[go_sem],by simp only[go_sem],.inl ⟨.order x0,l1,o0,hw,rfl,jx (j:=3) I (by decide) kk op oc C P (A.trans ?_) N2 (fun i hi hne=>?_) B3 F3⟩⟩
    ·simp only[dC,eH,cA,Sk.eD,Sk.gE,Sk.gF,Sk.eN,List.map_append];rfl
    ·have:i=0∨i=1∨i=2∨i=3∨i=4∨i=5:=by omega
     rcases this with rfl|rfl|rfl|rfl|rfl|rfl <;> first|rfl|exact absurd rfl hne
   ·simp only[go_sem,I.row];refine(L0 C ok).use (fun x0 l1 G ⟨e,o0⟩ C1 F=>?_) (fun G e F=>⟨F _ _ npc P,fun k row o h=>F _ _ (kk k row o h).2.2 (kk k row o h).1,noL (BR hw fun t ht h=>e t [] ⟨h.trans (List.append_nil _).symm,ht⟩)⟩);subst e;replace C:=C1;clear C1;replace kk:∀k row,Off b n k→H k=some row→G k=some row∧k≠p∧k≠c:=fun k row o h=>⟨F _ _ (kk k row o h).2.2 (kk k row o h).1,(kk k row o h).2⟩
    replace I:=I.fr F oc;replace P:=F _ _ npc P;clear F;simp only[go_sem,I.row];refine⟨?_,?_⟩
    all_goals
     simp only[go_sem,I.row];refine mH (I.d 3 (by decide)) ⟨rfl,rfl⟩ (by simp only[go_sem]) (by simp only[dC,List.length_map,List.length_cons,List.length_nil];have:=hx.ol;omega) fun j' G2 A N2=>?_
     have B:=(N2 b _ (I.nb 3 (by decide)).symm I.row).2;simp only[go_sem,B];refine bU QR B ⟨Nat.zero_lt_one,rfl,Nat.le_of_ble_eq_true rfl⟩ fun G3 B3 F3=>?_
     simp only[go_sem];refine cV fun _ Hm _ hm2=>?_
     obtain rfl:Hm=G3:=funext fun k=>hm2 k (by simp)
     refine hK' _ _ ⟨by simp only[go_sem],by simp only[go_sem],by simp only[go_sem],.inl ⟨.order x0,l1,o0,hw,rfl,jx (j:=3) I (by decide) kk op oc C P (A.trans ?_) N2 (fun i hi hne=>?_) B3 F3⟩⟩
     ·simp only[dC,eH,cA,Sk.eD,Sk.gE,Sk.gF,Sk.eN,List.map_append];rfl
     ·have:i=0∨i=1∨i=2∨i=3∨i=4∨i=5:=by omega
      rcases this with rfl|rfl|rfl|rfl|rfl|rfl <;> first|rfl|exact absurd rfl hne
 simp only[go_sem];refine aA (fun hw4=>?_) (fun hw4=>?_)
 ·have hw:w=W 4:=gI hw4;simp only[go_sem];refine tG [] (.q 0 (.q 1 (.q 2 (.q 3 (.q 5 (.q 7 (.a2 4 (.a1 6 (.a1 8 (.q 9 (.a1 10 (.a1 11 (.q 12 (.q 13 (.a1 14 .nil)))))))) 6 (.a2 4 (.a1 8 (.q 9 (.a1 10 (.a1 11 (.q 12 (.q 13 (.a1 14 .nil))))))) 8 (.q 9 (.a2 4 (.a1 10 (.a1 11 (.q 12 (.q 13 (.a1 14 .nil))))) 10 (.a1 4 (.a1 11 (.q 12 (.q 13 (.a1 14 .nil))))))))))))))) (JQ H b n p c x w _) (by simp) (by kernel_rfl) (fun K' hK' Hp Hr _ hr _ _=>?_) hQ'
  ·obtain rfl:Hr=G:=funext fun k=>hr k (by simp)
   simp only[go_sem,I.row];refine⟨?_,?_⟩
   ·simp only[go_sem,I.row];refine(fY C ok).use (fun x0 l1 G ⟨e,o0⟩ C1 F=>?_) (fun G e F=>⟨F _ _ npc P,fun k row o h=>F _ _ (kk k row o h).2.2 (kk k row o h).1,noL (pR hw fun t ht h=>e _ _ ⟨congrArg (List.drop 0) h,ht.1⟩)⟩);have ok1:=ok;rw[e]at ok1;replace ok:=ok1.tl;clear ok1;subst e;replace C:=C1;clear C1;replace kk:∀k row,Off b n k→H k=some row→G k=some row∧k≠p∧k≠c:=fun k row o h=>⟨F _ _ (kk k row o h).2.2 (kk k row o h).1,(kk k row o h).2⟩
    replace I:=I.fr F oc;replace P:=F _ _ npc P;clear F;simp only[go_sem,I.row];refine(fY C ok).use (fun x1 l2 G ⟨e,o1⟩ C1 F=>?_) (fun G e F=>⟨F _ _ npc P,fun k row o h=>F _ _ (kk k row o h).2.2 (kk k row o h).1,noL (pR hw fun t ht h=>e _ _ ⟨congrArg (List.drop 1) h,ht.2⟩)⟩);have ok1:=ok;rw[e]at ok1;replace ok:=ok1.tl;clear ok1;subst e;replace C:=C1;clear C1;replace kk:∀k row,Off b n k→H k=some row→G k=some row∧k≠p∧k≠c:=fun k row o h=>⟨F _ _ (kk k row o h).2.2 (kk k row o h).1,(kk k row o h).2⟩
    replace I:=I.fr F oc;replace P:=F _ _ npc P;clear F;simp only[go_sem,I.row];refine mH (I.d 4 (by decide)) ⟨rfl,rfl⟩ (by simp only[go_sem]) (by simp only[dC,List.length_map,List.length_cons,List.length_nil];have:=hx.ap;omega) fun j' G2 A N2=>?_
    have B:=(N2 b _ (I.nb 4 (by decide)).symm I.row).2;simp only[go_sem,B];refine bU EU B ⟨Nat.zero_lt_one,rfl,Nat.le_of_ble_eq_true rfl⟩ fun G3 B3 F3=>?_
    simp only[go_sem];refine cV fun _ Hm _ hm2=>?_
    obtain rfl:Hm=G3:=funext fun k=>hm2 k (by simp)
    refine hK' _ _ ⟨by simp only[go_sem],by simp only[go_sem],by simp only[go_sem],.inl ⟨.apart ⟨x0,x1⟩,l2,⟨o0,o1⟩,hw,rfl,jx (j:=4) I (by decide) kk op oc C P (A.trans ?_) N2 (fun i hi hne=>?_) B3 F3⟩⟩
    ·simp only[dC,eH,cA,Sk.eD,Sk.gE,Sk.gF,Sk.eN,List.map_append];rfl
    ·have:i=0∨i=1∨i=2∨i=3∨i=4∨i=5:=by omega
     rcases this with rfl|rfl|rfl|rfl|rfl|rfl <;> first|rfl|exact absurd rfl hne
   ·simp only[go_sem,I.row];refine(fY C ok).use (fun x0 l1 G ⟨e,o0⟩ C1 F=>?_) (fun G e F=>⟨F _ _ npc P,fun k row o h=>F _ _ (kk k row o h).2.2 (kk k row o h).1,noL (pR hw fun t ht h=>e _ _ ⟨congrArg (List.drop 0) h,ht.1⟩)⟩);have ok1:=ok;rw[e]at ok1;replace ok:=ok1.tl;clear ok1;subst e;replace C:=C1;clear C1;replace kk:∀k row,Off b n k→H k=some row→G k=some row∧k≠p∧k≠c:=fun k row o h=>⟨F _ _ (kk k row o h).2.2 (kk k row o h).1,(kk k row o h).2⟩
    replace I:=I.fr F oc;replace P:=F _ _ npc P;clear F;simp only[go_sem,I.row];refine⟨?_,?_⟩
    ·simp only[go_sem,I.row];refine(fY C ok).use (fun x1 l2 G ⟨e,o1⟩ C1 F=>?_) (fun G e F=>⟨F _ _ npc P,fun k row o h=>F _ _ (kk k row o h).2.2 (kk k row o h).1,noL (pR hw fun t ht h=>e _ _ ⟨congrArg (List.drop 1) h,ht.2⟩)⟩);have ok1:=ok;rw[e]at ok1;replace ok:=ok1.tl;clear ok1;subst e;replace C:=C1;clear C1;replace kk:∀k row,Off b n k→H k=some row→G k=some row∧k≠p∧k≠c:=fun k row o h=>⟨F _ _ (kk k row o h).2.2 (kk k row o h).1,(kk k row o h).2⟩
     replace I:=I.fr F oc;replace P:=F _ _ npc P;clear F;simp only[go_sem,I.row];refine mH (I.d 4 (by decide)) ⟨rfl,rfl⟩ (by simp only[go_sem]) (by simp only[dC,List.length_map,List.length_cons,List.length_nil];have:=hx.ap;omega) fun j' G2 A N2=>?_
     have B:=(N2 b _ (I.nb 4 (by decide)).symm I.row).2;simp only[go_sem,B];refine bU EU B ⟨Nat.zero_lt_one,rfl,Nat.le_of_ble_eq_true rfl⟩ fun G3 B3 F3=>?_
     simp only[go_sem];refine cV fun _ Hm _ hm2=>?_
     obtain rfl:Hm=G3:=funext fun k=>hm2 k (by simp)
     refine hK' _ _ ⟨by simp only[go_sem],by simp only[go_sem],by simp only[go_sem],.inl ⟨.apart ⟨x0,x1⟩,l2,⟨o0,o1⟩,hw,rfl,jx (j:=4) I (by decide) kk op oc C P (A.trans ?_) N2 (fun i hi hne=>?_) B3 F3⟩⟩
     ·simp only[dC,eH,cA,Sk.eD,Sk.gE,Sk.gF,Sk.eN,List.map_append];rfl
     ·have:i=0∨i=1∨i=2∨i=3∨i=4∨i=5:=by omega
      rcases this with rfl|rfl|rfl|rfl|rfl|rfl <;> first|rfl|exact absurd rfl hne
    ·simp only[go_sem,I.row];refine(fY C ok).use (fun x1 l2 G ⟨e,o1⟩ C1 F=>?_) (fun G e F=>⟨F _ _ npc P,fun k row o h=>F _ _ (kk k row o h).2.2 (kk k row o h).1,noL (pR hw fun t ht h=>e _ _ ⟨congrArg (List.drop 1) h,ht.2⟩)⟩);have ok1:=ok;rw[e]at ok1;replace ok:=ok1.tl;clear ok1;subst e;replace C:=C1;clear C1;replace kk:∀k row,Off b n k→H k=some row→G k=some row∧k≠p∧k≠c:=fun k row o h=>⟨F _ _ (kk k row o h).2.2 (kk k row o h).1,(kk k row o h).2⟩
     replace I:=I.fr F oc;replace P:=F _ _ npc P;clear F;simp only[go_sem,I.row];refine⟨?_,?_⟩
     all_goals
      simp only[go_sem,I.row];refine mH (I.d 4 (by decide)) ⟨rfl,rfl⟩ (by simp only[go_sem]) (by simp only[dC,List.length_map,List.length_cons,List.length_nil];have:=hx.ap;omega) fun j' G2 A N2=>?_
      have B:=(N2 b _ (I.nb 4 (by decide)).symm I.row).2;simp only[go_sem,B];refine bU EU B ⟨Nat.zero_lt_one,rfl,Nat.le_of_ble_eq_true rfl⟩ fun G3 B3 F3=>?_
      simp only[go_sem];refine cV fun _ Hm _ hm2=>?_
      obtain rfl:Hm=G3:=funext fun k=>hm2 k (by simp)
      refine hK' _ _ ⟨by simp only[go_sem],by simp only[go_sem],by simp only[go_sem],.inl ⟨.apart ⟨x0,x1⟩,l2,⟨o0,o1⟩,hw,rfl,jx (j:=4) I (by decide) kk op oc C P (A.trans ?_) N2 (fun i hi hne=>?_) B3 F3⟩⟩
      ·simp only[dC,eH,cA,Sk.eD,Sk.gE,Sk.gF,Sk.eN,List.map_append];rfl
      ·have:i=0∨i=1∨i=2∨i=3∨i=4∨i=5:=by omega
       rcases this with rfl|rfl|rfl|rfl|rfl|rfl <;> first|rfl|exact absurd rfl hne
 simp only[go_sem];refine aA (fun hw5=>?_) (fun hw5=>?_)
 ·have hw:w=W 5:=gI hw5;simp only[go_sem];refine tG [] (.q 0 (.q 1 (.q 2 (.q 3 (.q 5 (.q 7 (.a2 4 (.a1 6 (.a1 8 (.q 9 (.a1 10 (.a1 11 (.q 12 (.q 13 (.a1 14 .nil)))))))) 6 (.a2 4 (.a1 8 (.q 9 (.a1 10 (.a1 11 (.q 12 (.q 13 (.a1 14 .nil))))))) 8 (.q 9 (.a2 4 (.a1 10 (.a1 11 (.q 12 (.q 13 (.a1 14 .nil))))) 10 (.a1 4 (.a1 11 (.q 12 (.q 13 (.a1 14 .nil))))))))))))))) (JQ H b n p c x w _) (by simp) (by kernel_rfl) (fun K' hK' Hp Hr _ hr _ _=>?_) hQ'
  ·obtain rfl:Hr=G:=funext fun k=>hr k (by simp)
   simp only[go_sem,I.row];refine⟨?_,?_⟩
   ·simp only[go_sem,I.row];refine(fY C ok).use (fun x0 l1 G ⟨e,o0⟩ C1 F=>?_) (fun G e F=>⟨F _ _ npc P,fun k row o h=>F _ _ (kk k row o h).2.2 (kk k row o h).1,noL (mV hw fun t ht h=>e _ _ ⟨congrArg (List.drop 0) h,ht.1⟩)⟩);have ok1:=ok;rw[e]at ok1;replace ok:=ok1.tl;clear ok1;subst e;replace C:=C1;clear C1;replace kk:∀k row,Off b n k→H k=some row→G k=some row∧k≠p∧k≠c:=fun k row o h=>⟨F _ _ (kk k row o h).2.2 (kk k row o h).1,(kk k row o h).2⟩
    replace I:=I.fr F oc;replace P:=F _ _ npc P;clear F;simp only[go_sem,I.row];refine(fY C ok).use (fun x1 l2 G ⟨e,o1⟩ C1 F=>?_) (fun G e F=>⟨F _ _ npc P,fun k row o h=>F _ _ (kk k row o h).2.2 (kk k row o h).1,noL (mV hw fun t ht h=>e _ _ ⟨congrArg (List.drop 1) h,ht.2⟩)⟩);have ok1:=ok;rw[e]at ok1;replace ok:=ok1.tl;clear ok1;subst e;replace C:=C1;clear C1;replace kk:∀k row,Off b n k→H k=some row→G k=some row∧k≠p∧k≠c:=fun k row o h=>⟨F _ _ (kk k row o h).2.2 (kk k row o h).1,(kk k row o h).2⟩
    replace I:=I.fr F oc;replace P:=F _ _ npc P;clear F;simp only[go_sem,I.row];refine mH (I.d 5 (by decide)) ⟨rfl,rfl⟩ (by simp only[go_sem]) (by simp only[dC,List.length_map,List.length_cons,List.length_nil];have:=hx.be;omega) fun j' G2 A N2=>?_
    have B:=(N2 b _ (I.nb 5 (by decide)).symm I.row).2;simp only[go_sem,B];refine bU EU B ⟨Nat.zero_lt_one,rfl,Nat.le_of_ble_eq_true rfl⟩ fun G3 B3 F3=>?_
    simp only[go_sem];refine cV fun _ Hm _ hm2=>?_
    obtain rfl:Hm=G3:=funext fun k=>hm2 k (by simp)
    refine hK' _ _ ⟨by simp only[go_sem],by simp only[go_sem],by simp only[go_sem],.inl ⟨.before ⟨x0,x1⟩,l2,⟨o0,o1⟩,hw,rfl,jx (j:=5) I (by decide) kk op oc C P (A.trans ?_) N2 (fun i hi hne=>?_) B3 F3⟩⟩
    ·simp only[dC,eH,cA,Sk.eD,Sk.gE,Sk.gF,Sk.eN,List.map_append];rfl
    ·have:i=0∨i=1∨i=2∨i=3∨i=4∨i=5:=by omega
     rcases this with rfl|rfl|rfl|rfl|rfl|rfl <;> first|rfl|exact absurd rfl hne
   ·simp only[go_sem,I.row];refine(fY C ok).use (fun x0 l1 G ⟨e,o0⟩ C1 F=>?_) (fun G e F=>⟨F _ _ npc P,fun k row o h=>F _ _ (kk k row o h).2.2 (kk k row o h).1,noL (mV hw fun t ht h=>e _ _ ⟨congrArg (List.drop 0) h,ht.1⟩)⟩);have ok1:=ok;rw[e]at ok1;replace ok:=ok1.tl;clear ok1;subst e;replace C:=C1;clear C1;replace kk:∀k row,Off b n k→H k=some row→G k=some row∧k≠p∧k≠c:=fun k row o h=>⟨F _ _ (kk k row o h).2.2 (kk k row o h).1,(kk k row o h).2⟩
    replace I:=I.fr F oc;replace P:=F _ _ npc P;clear F;simp only[go_sem,I.row];refine⟨?_,?_⟩
    ·simp only[go_sem,I.row];refine(fY C ok).use (fun x1 l2 G ⟨e,o1⟩ C1 F=>?_) (fun G e F=>⟨F _ _ npc P,fun k row o h=>F _ _ (kk k row o h).2.2 (kk k row o h).1,noL (mV hw fun t ht h=>e _ _ ⟨congrArg (List.drop 1) h,ht.2⟩)⟩);have ok1:=ok;rw[e]at ok1;replace ok:=ok1.tl;clear ok1;subst e;replace C:=C1;clear C1;replace kk:∀k row,Off b n k→H k=some row→G k=some row∧k≠p∧k≠c:=fun k row o h=>⟨F _ _ (kk k row o h).2.2 (kk k row o h).1,(kk k row o h).2⟩
     replace I:=I.fr F oc;replace P:=F _ _ npc P;clear F;simp only[go_sem,I.row];refine mH (I.d 5 (by decide)) ⟨rfl,rfl⟩ (by simp only[go_sem]) (by simp only[dC,List.length_map,List.length_cons,List.length_nil];have:=hx.be;omega) fun j' G2 A N2=>?_
     have B:=(N2 b _ (I.nb 5 (by decide)).symm I.row).2;simp only[go_sem,B];refine bU EU B ⟨Nat.zero_lt_one,rfl,Nat.le_of_ble_eq_true rfl⟩ fun G3 B3 F3=>?_
     simp only[go_sem];refine cV fun _ Hm _ hm2=>?_
     obtain rfl:Hm=G3:=funext fun k=>hm2 k (by simp)
     refine hK' _ _ ⟨by simp only[go_sem],by simp only[go_sem],by simp only[go_sem],.inl ⟨.before ⟨x0,x1⟩,l2,⟨o0,o1⟩,hw,rfl,jx (j:=5) I (by decide) kk op oc C P (A.trans ?_) N2 (fun i hi hne=>?_) B3 F3⟩⟩
     ·simp only[dC,eH,cA,Sk.eD,Sk.gE,Sk.gF,Sk.eN,List.map_append];rfl
     ·have:i=0∨i=1∨i=2∨i=3∨i=4∨i=5:=by omega
      rcases this with rfl|rfl|rfl|rfl|rfl|rfl <;> first|rfl|exact absurd rfl hne
    ·simp only[go_sem,I.row];refine(fY C ok).use (fun x1 l2 G ⟨e,o1⟩ C1 F=>?_) (fun G e F=>⟨F _ _ npc P,fun k row o h=>F _ _ (kk k row o h).2.2 (kk k row o h).1,noL (mV hw fun t ht h=>e _ _ ⟨congrArg (List.drop 1) h,ht.2⟩)⟩);have ok1:=ok;rw[e]at ok1;replace ok:=ok1.tl;clear ok1;subst e;replace C:=C1;clear C1;replace kk:∀k row,Off b n k→H k=some row→G k=some row∧k≠p∧k≠c:=fun k row o h=>⟨F _ _ (kk k row o h).2.2 (kk k row o h).1,(kk k row o h).2⟩
     replace I:=I.fr F oc;replace P:=F _ _ npc P;clear F;simp only[go_sem,I.row];refine⟨?_,?_⟩
     all_goals
      simp only[go_sem,I.row];refine mH (I.d 5 (by decide)) ⟨rfl,rfl⟩ (by simp only[go_sem]) (by simp only[dC,List.length_map,List.length_cons,List.length_nil];have:=hx.be;omega) fun j' G2 A N2=>?_
      have B:=(N2 b _ (I.nb 5 (by decide)).symm I.row).2;simp only[go_sem,B];refine bU EU B ⟨Nat.zero_lt_one,rfl,Nat.le_of_ble_eq_true rfl⟩ fun G3 B3 F3=>?_
      simp only[go_sem];refine cV fun _ Hm _ hm2=>?_
      obtain rfl:Hm=G3:=funext fun k=>hm2 k (by simp)
      refine hK' _ _ ⟨by simp only[go_sem],by simp only[go_sem],by simp only[go_sem],.inl ⟨.before ⟨x0,x1⟩,l2,⟨o0,o1⟩,hw,rfl,jx (j:=5) I (by decide) kk op oc C P (A.trans ?_) N2 (fun i hi hne=>?_) B3 F3⟩⟩
      ·simp only[dC,eH,cA,Sk.eD,Sk.gE,Sk.gF,Sk.eN,List.map_append];rfl
      ·have:i=0∨i=1∨i=2∨i=3∨i=4∨i=5:=by omega
       rcases this with rfl|rfl|rfl|rfl|rfl|rfl <;> first|rfl|exact absurd rfl hne
 simp only[go_sem];by_cases hw6:w=W 6
 ·exact hQ' _ _ ⟨by simp only[go_sem],by simp only[go_sem],by simp only[go_sem],.inl ⟨.fin,l0,trivial,hw6,rfl,n,I,C,P,op,fun k row o h=>⟨(kk k row o h).1,o,(kk k row o h).2.1⟩⟩⟩
 ·refine hQ' _ _ ⟨by simp only[go_sem],by simp only[go_sem],by simp only[go_sem],.inr ⟨fun i hi=>?_,C,P,fun k row o h=>⟨(kk k row o h).1,(kk k row o h).2.1⟩⟩⟩;have:i=0∨i=1∨i=2∨i=3∨i=4∨i=5∨i=6:=by omega
  rcases this with rfl|rfl|rfl|rfl|rfl|rfl|rfl <;> first|exact hw6|exact qC (by assumption)
end
end Go.Proofs.YthbiheckeoknlaaGreatDoor.Sp
end
