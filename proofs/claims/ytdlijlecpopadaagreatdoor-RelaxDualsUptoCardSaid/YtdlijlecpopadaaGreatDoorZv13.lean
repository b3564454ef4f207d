/- Texts joined by a program: NuE, NuH, NuI. -/
import Derived.Laws.Strings
import Derived.Test.YtdlijlecpopadaaGreatDoorZv11
import Derived.Test.YtdlijlecpopadaaGreatDoorZv12
set_option linter.unusedSimpArgs false
set_option linter.unusedVariables false
set_option maxRecDepth 100000
section
namespace Go.Proofs.YtdlijlecpopadaaGreatDoor.Nu
open Go.Aw Go.Aw.D Go.Proofs Ty Go.Nu
abbrev bas:Nat:=1000000000
def iD(n:Nat):List AV:=[int n]
theorem Ji(n:Nat):(iD n).length=1:=(rfl)
theorem WL(n:Nat):(iD n).getD 0 .any=int n:=(rfl)
attribute [go_sem] Ji WL
theorem cI{H:aF}{k:IntKind}{a b:Int}(h:a=b):Conv H (.v (.int k a)) (.v (.int k b)):=h▸.refl _
theorem cB{H:aF}{a b:Bool}(h:a=b):Conv H (.v (.bool a)) (.v (.bool b)):=h▸.refl _
theorem cS{H:aF}{a b:ByteArray}(h:a=b):Conv H (.v (.string a)) (.v (.string b)):=h▸.refl _
theorem ltB{k n:Nat}(h:decide ((k:Int)<(n:Int))=true):k<n:=by simpa using h
theorem geB{k n:Nat}(hk:k≤n)(h:decide ((k:Int)<(n:Int))=false):k=n:=by
 have:¬k<n:=by simpa using h
 omega
theorem aaT(s:ByteArray):s.toList=bl s:=ByteArray.toList_eq s
theorem allN(l:List Nat):dK 1 (l.map iD):=Kz Ji l
theorem adT(s:ByteArray)(k:Nat):s.data.getD k 0=(bl s).getD k 0:=by simp[bl,Array.getD_eq_getD_getElem?,List.getD]
theorem Wj(a:Array UInt8):bl ⟨a⟩=a.toList:=rfl
attribute [go_sem] aaT adT Wj
theorem Li{α:Type}{q:α→Bool}{l:List α}{k:Nat}{c:α}(h:l[k]?=some c)(hq:q c=false):l.all q=false:=by
 cases h':l.all q with
 | false=>rfl
 | true=>
   have:=List.all_eq_true.1 h' c (List.mem_of_getElem? h);rw[hq]at this;cases this
theorem Gx{α:Type}{q:α→Bool}{l:List α}(h:∀c∈l,q c=true):l.all q=true:=List.all_eq_true.2 h
theorem rR{α:Type}{p:α→Prop}{l:List α}{k:Nat}{x:α}(hk:l[k]?=some x)(hx:p x)(h:∀x∈l.take k,p x):∀x∈l.take (k+1),p x:=by
 rw[cN hk];intro y hy;rcases List.mem_append.1 hy with hy|hy
 · exact h y hy
 · rw[List.mem_singleton.1 hy];exact hx
theorem aaV{c:UInt8}{n:Nat}(hn:n<256):(((c.toNat:Int) == (n:Int))=true)↔c=UInt8.ofNat n:=by
 rw[beq_iff_eq];constructor
 · intro h
   have:c.toNat=n:=by omega
   rw[←this,UInt8.ofNat_toNat]
 · intro h
   rw[h,UInt8.toNat_ofNat'];omega
theorem LY(l:List UInt8):(l == []||(((l.getD 0 0).toNat:Int) == 48&& !(l == [48])))= !(l != []&&(l.length == 1||l.getD 0 0 != 48)):=by
 cases l with
 | nil=>rfl
 | cons c r=>
   have hc:(((c.toNat:Int) == 48)=true)↔c=48:=aaV (n:=48) (by omega);by_cases h:c=48
   · subst h
     cases r <;> rfl
   · have h1 : ((c.toNat : Int) == 48) = false := by
       rw[←Bool.not_eq_true,hc];exact h
     simp[h1,h]
theorem F4(c:UInt8):(decide ((c.toNat:Int)<48)||decide ((c.toNat:Int)>57))= !isD c:=by
 unfold isD;rw[Bool.eq_iff_iff];simp only[Bool.or_eq_true,decide_eq_true_eq,Bool.not_eq_true',Bool.and_eq_false_iff,decide_eq_false_iff_not];omega
theorem u8w{n:Nat}(h:48≤n)(h2:n<256):IntKind.u8.wrap ((n:Int)-48)=((n-48:Nat):Int):=by
 have e:IntKind.u8.wrap ((n:Int)-48)=((n:Int)-48)%256:=rfl;rw[e];omega
theorem nJ{l:List UInt8}{k:Nat}{c:UInt8}(h:l[k]?=some c):l.getD k 0=c:=by simp[List.getD,h]
theorem xO(s:ByteArray)(h:s.size≤4611686018427387904):PC Tryz.prog 85 [str s] (boo (cR s)):=by
 have hs:=bV s;refine PC.body (c:=Tryz.f85.body.getD .skip) (fun _=>false) mixed Tryz.func85 rfl (by kernel_rfl) ?_;unfold Tryz.f85;simp only[Option.getD_some];simp only[go_sem];refine⟨fun h0=>⟨by omega,?_⟩,?_⟩
 · have:bl s≠[]:=by simpa using h0
   have:=List.length_pos_iff.2 this;omega
 rw[LY];refine aA (fun hb=>?_) (fun hb=>?_)
 · simp only[go_sem]
   refine cB ?_;unfold cR dL;rw[Bool.not_eq_true']at hb;rw[hb];rfl
 rw[Bool.not_eq_false']at hb;simp only[go_sem];refine⟨fun ρ _=>∃k:Nat,k≤(bl s).length∧ρ 0=str s∧ρ 16=int s.size∧ρ 17=int k∧∀c∈(bl s).take k,isD c=true,fun ρ _=>(bl s).length-bQ (ρ 17),⟨0,Nat.zero_le _,rfl,rfl,rfl,by simp⟩,?_⟩;rintro ρ H ⟨k,hk,h0,h16,h17,hz⟩;simp only[go_sem,h0,h16,h17];refine aA (fun hlt=>?_) (fun hge=>?_)
 · have hlt:k<(bl s).length:=by have:=ltB hlt;omega
   obtain⟨c,hc⟩:=bC hlt;have hi:=nJ hc;simp only[go_sem,h0,h16,h17,hi,F4];refine⟨⟨by omega,by omega⟩,fun _=>⟨by omega,by omega⟩,aA (fun hb2=>?_) (fun hb2=>?_)⟩
   · simp only[go_sem]
     refine cB ?_;unfold cR dL;rw[Li hc (by simpa using hb2),Bool.and_false]
   · simp only[go_sem,h0,h16,h17,bG (show k≤4611686018427387904 by omega)]
     exact⟨⟨k+1,hlt,rfl,rR hc (by simpa using hb2) hz⟩,by simp only[aI];omega⟩
 · have hge:k=(bl s).length:=by rw[←hs]at hge;exact geB hk hge
   subst hge;rw[List.take_length]at hz;simp only[go_sem];refine cB ?_;unfold cR dL;rw[hb,Gx hz];rfl
theorem rK:∀(l:List Nat) (x:Nat),kQ (l++[x])=if x=0 then kQ l else l++[x]
 | [],x=>by simp only[List.nil_append,kQ]
 | y::l,x=>by
   rw[List.cons_append,kQ,rK l x];by_cases h:x=0
   · rw[if_pos h,if_pos h,kQ]
   · rw[if_neg h,if_neg h]
     cases l <;> rfl
theorem Wx(l:List Nat)(h:l.length≤4611686018427387904):PC Tryz.prog 185 [.sl (l.map iD)] (.sl ((kQ l).map iD)):=by
 refine PC.body (c:=Tryz.f185.body.getD .skip) (fun _=>false) mixed Tryz.func185 rfl (by kernel_rfl) ?_;unfold Tryz.f185;simp only[Option.getD_some];simp only[go_sem];refine⟨fun ρ _=>∃k:Nat,k≤l.length∧ρ 0=.sl ((l.take k).map iD)∧kQ (l.take k)=kQ l,fun ρ _=>match ρ 0 with| .sl es=>es.length|_=>0,⟨l.length,Nat.le_refl _,by rw[List.take_length];rfl,by rw[List.take_length]⟩,?_⟩;rintro ρ H ⟨k,hk,h0,hz⟩;have hkl:(l.take k).length=k:=by rw[List.length_take];omega
 cases k with
 | zero=>
   simp only[go_sem,h0,hkl,show decide (((0:Nat):Int)>0)=false from rfl];refine aA (fun hb=>by cases hb) (fun _=>?_);simp only[go_sem,h0];have hz':kQ l=[]:=by rw[←hz];rfl
   rw[hz'];exact .refl _
 | succ k=>
 have b1:IntKind.i64.wrap (((k+1:Nat):Int)-1)=(k:Int):=by rw[aT (by omega)];omega
 obtain⟨x,hx⟩:=bC (show k<l.length by omega);have hx':(l.take (k+1))[k]?=some x:=by rw[List.getElem?_take,if_pos (by omega)];exact hx
 have e1:l.take (k+1)=l.take k++[x]:=cN hx;simp only[go_sem,h0,hkl,b1,aH hx',show decide (((k+1:Nat):Int)>0)=true from decide_eq_true (by omega)];refine⟨⟨by omega,by omega⟩,aA (fun hb=>?_) (fun hb=>?_)⟩
 · have hx0:x=0:=by simpa using hb
   simp only[go_sem,h0,hkl,b1];refine⟨by omega,⟨⟨k,by omega,?_,?_⟩,?_⟩⟩
   · rw[←List.map_take,List.take_take,Nat.min_eq_left (by omega)]
   · rw[e1,rK,if_pos hx0]at hz;exact hz
   · rw[←List.map_take,List.length_map,List.length_take];omega
 · have hx0:x≠0:=by simpa using hb
   simp only[go_sem,h0];rw[e1,rK,if_neg hx0]at hz;rw[e1,hz];exact .refl _
abbrev nl(n:Nat):AV:=.sl ((aV bas n).map iD)
theorem FH:nl 0=.sl []:=by
 simp only[nl,dQ];rfl
theorem D6{l:List Nat}(hl:Lim bas l)(h:l.length≤4611686018427387904){n:Nat}(hn:ofL bas l=n):PC Tryz.prog 185 [.sl (l.map iD)] (nl n):=by
 have:=Wx l h
 rwa [GC (by decide) hl hn]at this
def cL(l:List Nat):Row:=⟨3,1,l.map iD⟩
theorem rZ{H:aF}{k:Nat}{l:List Nat}{x:Nat}:aJ H k (some ⟨3,1,l.map iD++[[int (x:Int)]]⟩) k=some (cL (l++[x])):=by
 rw[aB];simp only[cL,List.map_append,List.map_cons,List.map_nil];rfl
theorem SJ(s:ByteArray)(hr:(bl s).all isD=true)(h:s.size≤4096):PC Tryz.prog 184 [str s] (nl (dJ s)):=by
 have hs:=bV s;refine PC.body (c:=Tryz.f184.body.getD .skip) (fun t=>t == 3) mixed Tryz.func184 rfl (by kernel_rfl) ?_;unfold Tryz.f184;simp only[Option.getD_some];simp only[go_sem];refine aN fun j hj=>?_
 simp only[go_sem];refine⟨fun ρ H=>∃(m j:Nat) (o:List Nat),m≤(bl s).length∧ρ 0=str (s.extract 0 m)∧ρ 3=.os j∧H j=some (cL o)∧Lim bas o∧o.length≤(bl s).length-m∧ofL bas o+bas^o.length*fJ ((bl s).take m)=dJ s,fun ρ _=>match ρ 0 with| .v (.string t)=>t.size|_=>0,⟨(bl s).length,j,[],Nat.le_refl _,?_,by simp only[go_sem],aB _ _ _,by simp[Lim],by simp,?_⟩,?_⟩
 · rw[show s.extract 0 (bl s).length=s from jG (by rw[eJ,List.take_length,List.drop_zero])];rfl
 · rw[List.take_length];simp[ofL,dJ]
 clear hj j;rintro ρ H ⟨m,j,o,hm,h0,h3,Rj,ho,hlen,hv⟩;have hsz:(s.extract 0 m).size=m:=by rw[←bV,eJ,List.drop_zero,List.length_take];omega
 simp only[go_sem,h0,h3,hsz];refine aA (fun hb=>?_) (fun hb=>?_)
 · have hm0:0<m:=by simpa using hb
   have e9:kC 0 (IntKind.i64.wrap ((m:Int)-9))=((m-9:Nat):Int):=by
     rw[aT (by omega)];unfold kC;split <;> omega
   simp only[go_sem,h0,h3,hsz];refine⟨fun ρ H=>∃i:Nat,m-9≤i∧i≤m∧ρ 0=str (s.extract 0 m)∧ρ 3=.os j∧ρ 4=int (m-9:Nat)∧ρ 5=int (fJ (((bl s).take i).drop (m-9)):Nat)∧ρ 6=int i∧H j=some (cL o),fun ρ _=>m-bQ (ρ 6),
     ⟨m-9,Nat.le_refl _,by omega,by simp only[go_sem,h0],by simp only[go_sem,h3],?_,?_,?_,Rj⟩,?_⟩
   · simp only[go_sem,e9]
   · simp only[go_sem]
     rw[List.drop_eq_nil_of_le (by rw[List.length_take];omega)];rfl
   · simp only[go_sem,e9]
   clear h0 h3 Rj;rintro ρ H ⟨i,hi1,hi2,h0,h3,h4,h5,h6,Rj⟩;simp only[go_sem,h0,h3,h4,h5,h6,hsz];refine aA (fun hlt=>?_) (fun hge=>?_)
   · have hlt:i<m:=ltB hlt
     obtain⟨c,hc⟩:=bC (show i<(bl s).length by omega);have hx:(bl (s.extract 0 m)).getD i 0=c:=by rw[eJ,List.drop_zero];exact nJ (by rw[List.getElem?_take,if_pos hlt];exact hc)
     have hd:=jT.1 (List.all_eq_true.1 hr c (List.mem_of_getElem? hc));have hv2:=Bf (l:=((bl s).take i).drop (m-9)) (List.all_eq_true.2 fun c hc=>List.all_eq_true.1 hr c (List.mem_of_mem_take (List.mem_of_mem_drop hc)));have hv3:10^(((bl s).take i).drop (m-9)).length≤10^9:=Nat.pow_le_pow_right (by omega) (by rw[List.length_drop,List.length_take];omega);have e1:((bl s).take (i+1)).drop (m-9)=((bl s).take i).drop (m-9)++[c]:=by
       rw[cN hc,List.drop_append_of_le_length (by rw[List.length_take];omega)]
     have e2:IntKind.i64.wrap (IntKind.i64.wrap (10*((fJ (((bl s).take i).drop (m-9)):Nat):Int))+IntKind.i64.wrap (IntKind.u8.wrap ((c.toNat:Int)-48)))=((fJ (((bl s).take (i+1)).drop (m-9)):Nat):Int):=by
       rw[e1,kH,u8w hd.1 (by omega)];generalize fJ (((bl s).take i).drop (m-9))=V at *;rw[show IntKind.i64.wrap (10*(V:Int))=10*(V:Int)from aT (by omega),show IntKind.i64.wrap (((c.toNat-48:Nat):Int))=((c.toNat-48:Nat):Int)from aT (by omega),aT (by omega)];omega
     simp only[go_sem,h0,h3,h4,h5,h6,hsz,hx,e2,bG (show i≤4611686018427387904 by omega)];exact⟨⟨by omega,by omega⟩,⟨i+1,by omega,by omega,rfl,rfl,Rj⟩,by simp only[aI];omega⟩
   · have hge:i=m:=geB hi2 hge
     subst hge;simp only[go_sem,h0,h3,h4,h5,h6,hsz];have hL:(((bl s).take i).drop (i-9)).length=i-(i-9):=by rw[List.length_drop,List.length_take];omega
     have hA:(((bl s).take i).drop (i-9)).all isD=true:=List.all_eq_true.2 fun c hc=>List.all_eq_true.1 hr c (List.mem_of_mem_take (List.mem_of_mem_drop hc))
     have hv2:=Bf hA;have hv3:10^(((bl s).take i).drop (i-9)).length≤10^9:=Nat.pow_le_pow_right (by omega) (by omega);have hcut:fJ ((bl s).take i)=fJ ((bl s).take (i-9))*10^(((bl s).take i).drop (i-9)).length+fJ (((bl s).take i).drop (i-9)):=by
       rw[←pZ]
       congr 1
       conv=>lhs;rw[←List.take_append_drop (i-9) ((bl s).take i)]
       rw[List.take_take,Nat.min_eq_left (by omega)]
     generalize fJ (((bl s).take i).drop (i-9))=x at *;refine bA Rj ⟨rfl,rfl⟩ ⟨rfl,trivial⟩ (by simp only[cL,List.length_map,List.length_cons,List.length_nil];omega) (fun j' hj'=>?_);simp only[go_sem,h0,h3,h4,h5,h6,hsz];refine⟨⟨by omega,by omega⟩,⟨⟨i-9,j',o++[x],by omega,?_,rfl,rZ,ho.snoc (show x<1000000000 by omega),?_,?_⟩,?_⟩⟩
     · congr 2
       refine jG ?_;rw[eJ,eJ,eJ];simp only[List.drop_zero,List.take_take];rw[Nat.min_eq_left (by omega)]
     · rw[List.length_append,List.length_cons,List.length_nil];omega
     · rw[←hv,hcut,rA,List.length_append,List.length_cons,List.length_nil,Nat.pow_succ]
       by_cases h9:9≤i
       · rw[hL,show i-(i-9)=9 by omega]
         grind
       · rw[show i-9=0 by omega]
         simp only[List.take_zero,fJ,List.foldl_nil]
         grind
     · rw[←bV,eJ,eJ]
       simp only[List.drop_zero,List.length_take];omega
 · have hm0:m=0:=by simpa using hb
   subst hm0;simp only[go_sem,h0,h3];refine PC.useF [j] (.cons _ _ _ _ (.row _ _ _ (by simp[Rj];rfl) (ConvE.refl _)) .nil) (D6 ho (by omega) (n:=dJ s) (by rw[←hv];simp[fJ])) ?_;simp only[go_sem];exact .refl _
theorem neN{a b:Nat}(h:((a:Int) != (b:Int))=true):a≠b:=by
 rw[bne_iff_ne]at h;omega
theorem eqN{a b:Nat}(h:((a:Int) != (b:Int))=false):a=b:=by
 rw[bne_eq_false_iff_eq]at h;omega
theorem Vo{a b:Int}(h:a≤b):iC a b≤0:=by
 unfold iC;split
 · omega
 · rw[if_neg (by omega)];omega
theorem Mq(n:Int):PC Tryz.prog 76 [int n] (boo false):=by
 refine PC.body (c:=Tryz.f76.body.getD .skip) (fun _=>false) mixed Tryz.func76 rfl (by kernel_rfl) ?_;unfold Tryz.f76;simp only[Option.getD_some];simp only[go_sem];exact cB (by simp)
theorem GJ(a b:Int):PC Tryz.prog 38 [int a,int b] (int (iC a b)):=by
 refine PC.body (c:=Tryz.f38.body.getD .skip) (fun _=>false) mixed Tryz.func38 rfl (by kernel_rfl) ?_;unfold Tryz.f38;simp only[Option.getD_some];simp only[go_sem];refine PC.use (Mq a) ?_;simp only[go_sem];refine PC.use (Mq b) ?_;simp only[go_sem];refine aA (fun h=>by cases h) (fun _=>?_);simp only[go_sem];refine aA (fun h=>by cases h) (fun _=>?_);simp only[go_sem];refine aA (fun h=>?_) (fun h=>?_)
 · simp only[go_sem]
   exact cI (by rw[iX (by simpa using h)])
 · simp only[go_sem]
   refine aA (fun h2=>?_) (fun h2=>?_)
   · simp only[go_sem]
     exact cI (by rw[iZ (by simpa using h2)])
   · simp only[go_sem]
     exact cI (by rw[oL (by simp at h h2;omega)])
theorem KX(l:List Nat)(i:Nat)(hi:i≤4611686018427387904):PC Tryz.prog 166 [.sl (l.map iD),int i] (int (l.getD i 0:Nat)):=by
 refine PC.body (c:=Tryz.f166.body.getD .skip) (fun _=>false) mixed Tryz.func166 rfl (by kernel_rfl) ?_;unfold Tryz.f166;simp only[Option.getD_some];simp only[go_sem];refine aA (fun h=>?_) (fun h=>?_)
 · have h:=ltB h
   obtain⟨x,hx⟩:=bC h;have b1:=inB h;simp only[go_sem,aH hx,b1];exact cI (by simp[List.getD,hx])
 · simp only[go_sem]
   have h:¬i<l.length:=by simpa using h
   exact cI (by simp[List.getD,List.getElem?_eq_none (by omega:l.length≤i)])
theorem VH{l r:List Nat}(hl:Lim bas l)(hr:Lim bas r)(hlen:l.length=r.length){k x y:Nat}(hx:l[k]?=some x)(hy:r[k]?=some y)(hd:l.drop (k+1)=r.drop (k+1))(hne:x≠y):iC (x:Int) y=iC (ofL bas l) (ofL bas r):=by
 rcases Nat.lt_or_gt_of_ne hne with h|h
 · have:=Ec (b:=bas) (by decide) hl hr hlen hx hy h hd
   rw[iX (by omega),iX (by omega)]
 · have:=Ec (b:=bas) (by decide) hr hl hlen.symm hy hx h hd.symm
   rw[iZ (by omega),iZ (by omega)]
theorem Ai(m n:Nat)(hm:(aV bas m).length≤1048576)(hn:(aV bas n).length≤1048576):PC Tryz.prog 167 [nl m,nl n] (int (iC m n)):=by
 have om:=dM (b:=bas) (by decide) m;have on:=dM (b:=bas) (by decide) n;have lm:=dH (b:=bas) (by decide) m;have ln:=dH (b:=bas) (by decide) n;have hlt:(aV bas m).length<(aV bas n).length→m<n:=EM (by decide);have hgt:(aV bas n).length<(aV bas m).length→n<m:=EM (by decide);simp only[nl];generalize aV bas m=a at *;generalize aV bas n=b at *;refine PC.body (c:=Tryz.f167.body.getD .skip) (fun _=>false) mixed Tryz.func167 rfl (by kernel_rfl) ?_;unfold Tryz.f167;simp only[Option.getD_some];simp only[go_sem];refine aA (fun h=>?_) (fun h=>?_)
 · simp only[go_sem]
   refine PC.use (GJ _ _) ?_;simp only[go_sem];refine cI ?_;have h:a.length≠b.length:=neN h;rcases Nat.lt_or_gt_of_ne h with h|h
   · have:=hlt h
     rw[iX (by omega),iX (by omega)]
   · have:=hgt h
     rw[iZ (by omega),iZ (by omega)]
 have hlen:a.length=b.length:=eqN h;simp only[go_sem];refine⟨fun ρ _=>∃k:Nat,k≤a.length∧ρ 0=.sl (a.map iD)∧ρ 1=.sl (b.map iD)∧ρ 5=int ((k:Int)-1)∧a.drop k=b.drop k,fun ρ _=>match ρ 5 with| .v (.int _ z)=>(z+1).toNat|_=>0,⟨a.length,Nat.le_refl _,by simp only[go_sem],by simp only[go_sem],by simp only[go_sem,mH (show a.length≤4611686018427387904 by omega)],by rw[List.drop_eq_nil_of_le (Nat.le_refl _),List.drop_eq_nil_of_le (by omega)]⟩,?_⟩;rintro ρ H ⟨k,hk,h0,h1,h5,hd⟩;simp only[go_sem,h0,h1,h5];refine aA (fun hb=>?_) (fun hb=>?_)
 · have hk0:0<k:=by simp at hb;omega
   obtain⟨k,rfl⟩:∃j,k=j+1:=⟨k-1,by omega⟩;rw[show((k+1:Nat):Int)-1=(k:Int)by omega]at h5 ⊢;obtain⟨x,hx⟩:=bC (show k<a.length by omega);obtain⟨y,hy⟩:=bC (show k<b.length by omega);have b1:=inB (show k<a.length by omega);have b2:=inB (show k<b.length by omega);simp only[go_sem,h0,h1,h5];refine gL (by rfl) (by kernel_rfl) ?_;simp only[go_sem,h0,h1,h5,aH hx,aH hy,b1,b2];refine aA (fun hb2=>?_) (fun hb2=>?_)
   · simp only[go_sem,h0,h1,h5]
     refine gL (by rfl) (by kernel_rfl) ?_;simp only[go_sem,h0,h1,h5,aH hx,aH hy,b1,b2];refine⟨_,(GJ x y).q rfl,?_⟩;simp only[go_sem];exact cI (by rw[VH lm ln hlen hx hy hd (neN hb2),om,on])
   · have hxy:x=y:=eqN hb2
     simp only[go_sem,h0,h1,h5,mH (show k≤4611686018427387904 by omega)];refine⟨⟨k,by omega,rfl,?_⟩,by omega⟩;have e1:a.drop k=x::a.drop (k+1):=by rw[List.drop_eq_getElem_cons (by omega)];congr 1;exact(List.getElem?_eq_some_iff.1 hx).2
     have e2:b.drop k=y::b.drop (k+1):=by rw[List.drop_eq_getElem_cons (by omega)];congr 1;exact(List.getElem?_eq_some_iff.1 hy).2
     rw[e1,e2,hd,hxy]
 · have hk0:k=0:=by simp at hb;omega
   subst hk0;simp only[go_sem];refine cI ?_;have hab:a=b:=by simpa using hd
   rw[oL];rw[←om,←on,hab]
def tw(a b:ByteArray)(n:Nat):List (List AV):=if gX a b=0 then(aV bas n).map iD else[]
theorem BV{a b:ByteArray}{n:Nat}(h:gX a b=0):tw a b n=(aV bas n).map iD:=if_pos h
theorem Mk{a b:ByteArray}{n:Nat}(h:gX a b≠0):tw a b n=[]:=if_neg h
theorem Jw(a b:ByteArray)(ha:a.size≤1048576)(hb:b.size≤1048576):PC Tryz.prog 144 [str a,str b] (.tup [.sl (tw a b (dJ a)),.sl (tw a b (dJ b)),int (gX a b)]):=by
 refine PC.body (c:=Tryz.f144.body.getD .skip) (fun _=>false) mixed Tryz.func144 rfl (by kernel_rfl) ?_;unfold Tryz.f144;simp only[Option.getD_some];simp only[go_sem];refine PC.use (xO a (by omega)) ?_;simp only[go_sem];refine⟨_,fun _=>(xO b (by omega)).q rfl,?_⟩;simp only[go_sem];refine aA (fun h=>?_) (fun h=>?_)
 · simp only[go_sem]
   have e:gX a b=3:=by unfold gX;rw[if_pos h]
   rw[Mk (by rw[e];decide),Mk (by rw[e];decide),e];exact .refl _
 have hr:cR a=true∧cR b=true:=by simpa using h
 simp only[go_sem];refine aA (fun h2=>?_) (fun h2=>?_)
 · simp only[go_sem]
   have h2':(decide (a.size>4096)||decide (b.size>4096))=true:=by simp at h2 ⊢;omega
   have e:gX a b=4:=by unfold gX;rw[if_neg (by rw[h];simp),if_pos h2']
   rw[Mk (by rw[e];decide),Mk (by rw[e];decide),e];exact .refl _
 have h3:a.size≤4096∧b.size≤4096:=by simp at h2;omega
 have e:gX a b=0:=Bj hr.1 hr.2 h3.1 h3.2;have d:∀{s:ByteArray},cR s=true→(bl s).all isD=true:=fun h=>by
   unfold cR dL at h;simp only[Bool.and_eq_true]at h;exact h.2
 simp only[go_sem];refine PC.use (SJ a (d hr.1) h3.1) ?_;simp only[go_sem];refine PC.use (SJ b (d hr.2) h3.2) ?_;simp only[go_sem];rw[BV e,BV e,e];exact .refl _
theorem GV{H:aF}{j:Nat}:aJ H j (some ⟨3,1,[]⟩) j=some (cL []):=aB _ _ _
theorem M7(m k:Nat)(hm:(aV bas m).length≤1048576)(hk:k<bas):PC Tryz.prog 187 [nl m,int k] (nl (m*k)):=by
 have hk:k<1000000000:=hk;have om:=dM (b:=bas) (by decide) m;have lm:=dH (b:=bas) (by decide) m;simp only[nl];generalize aV bas m=l at *;have hw0:IntKind.i64.wrap ((l.length:Int)+1)=((l.length+1:Nat):Int):=bG (by omega);refine PC.body (c:=Tryz.f187.body.getD .skip) (fun t=>t == 5) mixed Tryz.func187 rfl (by kernel_rfl) ?_;unfold Tryz.f187;simp only[Option.getD_some];simp only[go_sem];refine⟨by omega,aN fun j hj=>?_⟩;simp only[go_sem];refine⟨fun ρ H=>∃(i j c:Nat) (o:List Nat),i≤l.length∧ρ 1=int k∧ρ 13=.sl (l.map iD)∧ρ 14=int l.length∧ρ 5=.os j∧ρ 6=int c∧ρ 15=int i∧H j=some (cL o)∧Lim bas o∧o.length=i∧c<1000000000∧ofL bas o+bas^i*c=ofL bas (l.take i)*k,fun ρ _=>l.length-bQ (ρ 15),
   ⟨0,j,0,[],Nat.zero_le _,by simp only[go_sem],by simp only[go_sem],by simp only[go_sem,List.length_map],by simp only[go_sem],by simp only[go_sem];rfl,by simp only[go_sem];rfl,GV,by simp[Lim],rfl,by omega,by simp[ofL]⟩,?_⟩
 clear hj j;rintro ρ H ⟨i,j,c,o,hi,h1,h13,h14,h5,h6,h15,Rj,ho,hol,hc,hv⟩;simp only[go_sem,h1,h13,h14,h5,h6,h15];refine aA (fun hlt=>?_) (fun hge=>?_)
 · have hlt:=ltB hlt
   obtain⟨n,hn⟩:=bC hlt;have b1:=inB hlt;have hnb:n<1000000000:=lm n (List.mem_of_getElem? hn);have hmul:n*k≤999999999*999999999:=Nat.mul_le_mul (by omega) (by omega);have e1:IntKind.i64.wrap (IntKind.i64.wrap ((n:Int)*(k:Int))+(c:Int))=((n*k+c:Nat):Int):=by
     rw[show(n:Int)*(k:Int)=((n*k:Nat):Int)from(Int.natCast_mul n k).symm];generalize n*k=p at *;rw[show IntKind.i64.wrap (p:Int)=(p:Int)from aT (by omega),aT (by omega)];omega
   have hst:=LP (b:=bas) (by decide) hn hol hv;simp only[go_sem,h1,h13,h14,h5,h6,h15,aH hn,b1,e1];have hq:(n*k+c)/1000000000<1000000000:=by omega
   have e2:IntKind.i64.wrap ((((n*k+c:Nat):Int)).tdiv 1000000000)=(((n*k+c)/1000000000:Nat):Int):=by
     generalize n*k+c=p at *;rw[Int.tdiv_eq_ediv_of_nonneg (by omega),aT (by omega)];omega
   have e3:(((n*k+c:Nat):Int)).tmod 1000000000=(((n*k+c)%1000000000:Nat):Int):=by
     rw[Int.tmod_eq_emod_of_nonneg (by omega)];omega
   simp only[e2,e3];refine⟨by decide,?_⟩;refine bA Rj ⟨rfl,rfl⟩ ⟨rfl,trivial⟩ (by simp only[cL,List.length_map,List.length_cons,List.length_nil];omega) (fun j' hj'=>?_);simp only[go_sem,h1,h13,h14,h5,h6,h15,e2,bG (show i≤4611686018427387904 by omega)];refine⟨by decide,⟨i+1,j',_,o++[(n*k+c)%bas],hlt,rfl,rfl,rfl,rZ,ho.snoc (Nat.mod_lt _ (by decide)),by simp[hol],hq,hst⟩,by simp only[aI];omega⟩
 · have hge:=geB hi hge
   subst hge;simp only[go_sem,h5,h6];refine bA Rj ⟨rfl,rfl⟩ ⟨rfl,trivial⟩ (by simp only[cL,List.length_map,List.length_cons,List.length_nil];omega) (fun j' hj'=>?_);simp only[go_sem];have hT:Lim bas (o++[c]):=ho.snoc hc;have hV:ofL bas (o++[c])=m*k:=by rw[rA,hol,hv,List.take_length,om]
   refine PC.useF [j'] (.cons _ _ _ _ (.row _ _ _ (by simp only[List.mem_singleton,if_true];exact rZ) (ConvE.refl _)) .nil) (D6 hT (by simp;omega) hV) ?_;simp only[go_sem];exact .refl _
theorem Bi(m n:Nat)(hm:(aV bas m).length≤1048576)(hnm:n≤m):PC Tryz.prog 168 [nl m,nl n] (nl (m-n)):=by
 have om:=dM (b:=bas) (by decide) m;have on:=dM (b:=bas) (by decide) n;have lm:=dH (b:=bas) (by decide) m;have ln:=dH (b:=bas) (by decide) n;have hyl:=eA (b:=bas) (by decide) hnm;simp only[nl];generalize aV bas m=x at *;generalize aV bas n=y at *;refine PC.body (c:=Tryz.f168.body.getD .skip) (fun t=>t == 5) mixed Tryz.func168 rfl (by kernel_rfl) ?_;unfold Tryz.f168;simp only[Option.getD_some];simp only[go_sem];refine⟨by omega,aN fun j hj=>?_⟩;simp only[go_sem];refine⟨fun ρ H=>∃(i j c:Nat) (o:List Nat),i≤x.length∧ρ 0=.sl (x.map iD)∧ρ 1=.sl (y.map iD)∧ρ 13=int x.length∧ρ 5=.os j∧ρ 6=int c∧ρ 14=int i∧H j=some (cL o)∧Lim bas o∧o.length=i∧c≤1∧ofL bas o+ofL bas (y.take i)=ofL bas (x.take i)+bas^i*c,fun ρ _=>x.length-bQ (ρ 14),
   ⟨0,j,0,[],Nat.zero_le _,by simp only[go_sem],by simp only[go_sem],by simp only[go_sem,List.length_map],by simp only[go_sem],by simp only[go_sem];rfl,by simp only[go_sem];rfl,GV,by simp[Lim],rfl,by omega,by simp[ofL]⟩,?_⟩
 clear hj j;rintro ρ H ⟨i,j,c,o,hi,h0,h1,h13,h5,h6,h14,Rj,ho,hol,hc,hv⟩;simp only[go_sem,h0,h1,h13,h5,h6,h14];refine aA (fun hlt=>?_) (fun hge=>?_)
 · have hlt:=ltB hlt
   obtain⟨a,ha⟩:=bC hlt;have hag:x.getD i 0=a:=by simp[List.getD,ha]
   have b1:=inB hlt;have hab:a<1000000000:=lm a (List.mem_of_getElem? ha);have hyb:y.getD i 0<1000000000:=ln.getD (by decide) i;simp only[go_sem,h0,h1,h13,h5,h6,h14];refine gL (by rfl) (by kernel_rfl) ?_;simp only[go_sem,h0,h1,h13,h5,h6,h14,aH ha,b1];refine⟨_,(KX y i (by omega)).q rfl,?_⟩;have hd1:=AH (b:=1000000000) hab hyb hc;have hd2:=xP (b:=1000000000) hab hyb hc;have hst:=Bs (b:=bas) (x:=x) (y:=y) (c':=if a<y.getD i 0+c then 1 else 0) (d:=if a<y.getD i 0+c then a+1000000000-(y.getD i 0+c)else a-(y.getD i 0+c)) hol hv (by rw[hag];exact hd2.1);generalize y.getD i 0=yi at *;have e1:IntKind.i64.wrap (IntKind.i64.wrap ((a:Int)-(yi:Int))-(c:Int))=(a:Int)-yi-c:=by
     rw[show IntKind.i64.wrap ((a:Int)-(yi:Int))=(a:Int)-yi from aT (by omega),aT (by omega)]
   simp only[go_sem,h0,h1,h13,h5,h6,h14,e1];refine bD (fun ρ' H'=>ρ' 0=.sl (x.map iD)∧ρ' 1=.sl (y.map iD)∧ρ' 13=int x.length∧ρ' 5=.os j∧ρ' 14=int i∧H' j=some (cL o)∧ρ' 8=int (if a<yi+c then a+1000000000-(yi+c)else a-(yi+c):Nat)∧ρ' 6=int (if a<yi+c then 1 else 0:Nat)) ?_ fun K hK=>aA (fun hb=>?_) (fun hb=>?_)
   rotate_left
   · have hb:a<yi+c:=by simp at hb;omega
     have e2:IntKind.i64.wrap ((a:Int)-yi-c+1000000000)=((a+1000000000-(yi+c):Nat):Int):=by rw[aT (by omega)];omega
     simp only[go_sem,h0,h1,h13,h5,h6,h14,e2];exact hK _ _ ⟨by simp only[go_sem,h0],by simp only[go_sem,h1],by simp only[go_sem,h13],by simp only[go_sem,h5],by simp only[go_sem,h14],Rj,by simp only[go_sem,if_pos hb],by simp only[go_sem,if_pos hb];rfl⟩
   · have hb:¬a<yi+c:=by simp at hb;omega
     simp only[go_sem,h0,h1,h13,h5,h6,h14];refine hK _ _ ⟨by simp only[go_sem,h0],by simp only[go_sem,h1],by simp only[go_sem,h13],by simp only[go_sem,h5],by simp only[go_sem,h14],Rj,?_,by simp only[go_sem,if_neg hb];rfl⟩;simp only[go_sem,if_neg hb]
     congr 2
     omega
   clear h0 h1 h13 h5 h6 h14 Rj;rintro ρ H ⟨h0,h1,h13,h5,h14,Rj,h8,h6⟩;simp only[go_sem,h0,h1,h13,h5,h6,h14,h8];refine bA Rj ⟨rfl,rfl⟩ ⟨rfl,trivial⟩ (by simp only[cL,List.length_map,List.length_cons,List.length_nil];omega) (fun j' hj'=>?_);simp only[go_sem,h0,h1,h13,h5,h6,h14,bG (show i≤4611686018427387904 by omega)];exact⟨⟨i+1,j',_,_,hlt,rfl,rfl,rfl,rZ,ho.snoc hd2.2,by simp[hol],by split <;> omega,hst⟩,by simp only[aI];omega⟩
 · have hge:=geB hi hge
   subst hge;simp only[go_sem,h5];obtain⟨_,hV⟩:=Ef (b:=bas) (by decide) ho lm hol hyl (by omega) hc hv;refine PC.useF [j] (.cons _ _ _ _ (.row _ _ _ (by simp only[List.mem_singleton,if_true];exact Rj) (ConvE.refl _)) .nil) (D6 ho (by omega) (hV.trans (by rw[om,on]))) ?_;simp only[go_sem];exact .refl _
theorem half{d r q:Nat}(h1:d*q≤r)(h2:r<d*(q+1))(hd:0<d):q=r/d:=by
 symm
 exact(Nat.div_eq_iff hd).2 ⟨by rw[Nat.mul_comm];exact h1,by rw[Nat.mul_add,Nat.mul_one]at h2;rw[Nat.mul_comm q d];omega⟩
theorem Bk(r d:Nat)(hr:(aV bas r).length≤1048576)(hd:0<d)(hdl:(aV bas d).length≤1048575)(h:r<d*bas):PC Tryz.prog 186 [nl r,nl d] (int (r/d:Nat)):=by
 refine PC.body (c:=Tryz.f186.body.getD .skip) (fun _=>false) mixed Tryz.func186 rfl (by kernel_rfl) ?_;unfold Tryz.f186;simp only[Option.getD_some];simp only[go_sem];refine⟨fun ρ _=>∃a b:Nat,a≤b∧b<1000000000∧ρ 0=nl r∧ρ 1=nl d∧ρ 5=int a∧ρ 6=int b∧d*a≤r∧r<d*(b+1),fun ρ _=>bQ (ρ 6)-bQ (ρ 5),⟨0,999999999,by omega,by omega,by simp only[go_sem],by simp only[go_sem],by simp only[go_sem];rfl,by simp only[go_sem];rfl,by simp,h⟩,?_⟩;rintro ρ H ⟨a,b,hab,hb,h0,h1,h5,h6,ha2,hb2⟩;simp only[go_sem,h0,h1,h5,h6];refine aA (fun hlt=>?_) (fun hge=>?_)
 · have hlt:=ltB hlt
   have e1:IntKind.i64.wrap ((IntKind.i64.wrap (IntKind.i64.wrap ((a:Int)+(b:Int))+1)).tdiv 2)=(((a+b+1)/2:Nat):Int):=by
     rw[show IntKind.i64.wrap ((a:Int)+(b:Int))=((a+b:Nat):Int)by rw[aT (by omega)];omega,bG (by omega),Int.tdiv_eq_ediv_of_nonneg (by omega),aT (by omega)];omega
   simp only[go_sem,h0,h1,h5,h6,e1];refine⟨by decide,?_⟩;have hm:(a+b+1)/2<bas:=show _<1000000000 by omega
   have hm1:a<(a+b+1)/2:=by omega
   have hm2:(a+b+1)/2≤b:=by omega
   generalize (a+b+1)/2=m at *;refine PC.use (M7 d m (by omega) hm) ?_;simp only[go_sem,h0,h1,h5,h6];have hdm:(aV bas (d*m)).length≤1048576:=by
     have h1:=mI (b:=bas) (by decide) (dH (b:=bas) (by decide) d);rw[dM (by decide)]at h1;have h2:d*m<bas^((aV bas d).length+1):=by
       rw[Nat.pow_succ];exact Nat.lt_of_lt_of_le (Nat.mul_lt_mul_of_pos_left hm hd) (Nat.mul_le_mul_right _ (Nat.le_of_lt h1))
     have:=kN (b:=bas) (by decide) h2;omega
   refine PC.use (Ai (d*m) r hdm hr) ?_;simp only[go_sem,h0,h1,h5,h6];refine aA (fun hc=>?_) (fun hc=>?_)
   · have hc : d * m ≤ r := by
       rcases Nat.lt_or_ge r (d*m)with h|h
       · rw[iZ (by omega)]at hc;simp at hc
       · exact h
     simp only[go_sem,h0,h1,h5,h6];exact⟨⟨m,b,by omega,hb,rfl,rfl,hc,hb2⟩,by simp only[aI];omega⟩
   · have hc : r < d * m := by
       rcases Nat.lt_or_ge r (d*m)with h|h
       · exact h
       · exfalso
         exact of_decide_eq_false hc (Vo (by omega))
     simp only[go_sem,h0,h1,h5,h6];refine⟨⟨a,m-1,by omega,by omega,rfl,?_,ha2,?_⟩,?_⟩
     · rw[mH (by omega)];congr 2;omega
     · rw[show m-1+1=m by omega];exact hc
     · rw[mH (by omega)];simp only[aI];omega
 · have hge:=geB hab hge
   subst hge;simp only[go_sem,h5];exact cI (by rw[half ha2 hb2 hd])
theorem Bp{qs:List Nat}{k v q:Nat}(h:qs[k]?=some v):({ cL qs with es:=(cL qs).es.set k (lT ((cL qs).es.getD k []) 0 [int (q:Int)]) }:Row)=cL (qs.set k q):=by
 simp only[cL,aH h,List.map_set];rfl
theorem Kf(m n:Nat)(hm:(aV bas m).length≤1048570)(hn:0<n)(hnl:(aV bas n).length≤1048570):PC Tryz.prog 145 [nl m,nl n] (.tup [nl (m/n),nl (m%n)]):=by
 have om:=dM (b:=bas) (by decide) m;have lm:=dH (b:=bas) (by decide) m;rw[show nl m=.sl ((aV bas m).map iD)from rfl];generalize aV bas m=l at *;refine PC.body (c:=Tryz.f145.body.getD .skip) (fun t=>t == 6||t == 23) mixed Tryz.func145 rfl (by kernel_rfl) ?_;unfold Tryz.f145;simp only[Option.getD_some];simp only[go_sem];refine⟨by omega,aN fun j hj=>?_⟩;simp only[go_sem];refine⟨fun ρ H=>∃(k r:Nat) (qs:List Nat),k≤l.length∧ρ 0=.sl (l.map iD)∧ρ 1=nl n∧ρ 6=.os j∧ρ 7=nl r∧ρ 8=int ((k:Int)-1)∧H j=some (cL qs)∧Lim bas qs∧qs.length=l.length∧r<n∧ofL bas (l.drop k)=ofL bas (qs.drop k)*n+r∧qs.take k=List.replicate k 0,fun ρ _=>match ρ 8 with| .v (.int _ z)=>(z+1).toNat|_=>0,
   ⟨l.length,0,List.replicate l.length 0,Nat.le_refl _,by simp only[go_sem],by simp only[go_sem],by simp only[go_sem],?_,?_,?_,Lim.zeros (by decide) _,by simp,hn,by simp[ofL],by simp⟩,?_⟩
 · simp only[go_sem]
   exact FH.symm
 · simp only[go_sem,mH (show l.length≤4611686018427387904 by omega)]
 · rw[aB]
   simp only[cL,List.map_replicate];rfl
 clear hj;rintro ρ H ⟨k,r,qs,hk,h0,h1,h6,h7,h8,Rj,hq,hql,hr,hv,hz⟩;simp only[go_sem,h0,h1,h6,h7,h8];refine aA (fun hb=>?_) (fun hb=>?_)
 · have hk0:0<k:=by simp at hb;omega
   obtain⟨k,rfl⟩:∃j,k=j+1:=⟨k-1,by omega⟩;rw[show((k+1:Nat):Int)-1=(k:Int)by omega]at h8 ⊢;obtain⟨x,hx⟩:=bC (show k<l.length by omega);have hxb:x<bas:=lm x (List.mem_of_getElem? hx);have b1:=inB (show k<l.length by omega);have b2:=inB (show k<qs.length by omega);have hq0:qs[k]?=some 0:=by
     have h1:(qs.take (k+1))[k]?=(List.replicate (k+1) 0)[k]?:=by rw[hz]
     rw[List.getElem?_take,if_pos (by omega)]at h1;rw[h1];simp
   obtain⟨hV,hQ,hR⟩:=QB (b:=bas) (a:=n) (by decide) hx hxb hr (show k<qs.length by omega) hv;have hrl:(aV bas r).length≤1048570:=Nat.le_trans (eA (by decide) (Nat.le_of_lt hr)) hnl;have hrb:x+bas*r<n*bas:=by
     have:bas*(r+1)≤bas*n:=Nat.mul_le_mul_left _ hr;rw[Nat.mul_add]at this;rw[Nat.mul_comm n bas];omega
   have hzk:(qs.set k ((x+bas*r)/n)).take k=List.replicate k 0:=by
     rw[List.take_set_of_le (by omega)];have h1:(qs.take (k+1)).take k=(List.replicate (k+1) 0).take k:=by rw[hz]
     rw[List.take_take,Nat.min_eq_left (by omega)]at h1;rw[h1];simp
   have hTL:ofL bas (x::aV bas r)=x+bas*r:=by rw[ofL,dM (by decide)]
   have hTT:Lim bas (x::aV bas r):=fun y hy=>by
     rcases List.mem_cons.1 hy with rfl|hy
     · exact hxb
     · exact dH (by decide) r y hy
   have hRl:(aV bas (x+bas*r)).length≤1048575:=by
     refine Nat.le_trans (kN (b:=bas) (k:=(aV bas r).length+1) (by decide) ?_) (by omega);have h1:=mI (b:=bas) (by decide) hTT;rw[hTL]at h1;simpa using h1
   generalize hR':x+bas*r=R at *;have hsub:R-n*(R/n)=R%n:=by have:=Nat.mod_add_div R n;omega
   have hnq:(aV bas (n*(R/n))).length≤1048576:=Nat.le_trans (eA (by decide) (Nat.mul_div_le R n)) (by omega);simp only[go_sem,h0,h1,h6,h7,h8,aH hx,b1];refine aN fun i hi=>?_
   simp only[go_sem,h0,h1,h6,h7,h8];have Rj1:=jJ (r':=⟨3,1,[[int (x:Int)]]⟩) Rj hi;refine bA (aB _ _ _) ⟨rfl,rfl⟩ (allN _) (by simp only[List.length_map,List.length_cons,List.length_nil];omega) (fun i2 hi2=>?_);have Rj2:=dE Rj1 (aO Rj hi).symm hi2 (r':=⟨3,1,[[int (x:Int)]]++(aV bas r).map iD⟩);have nj2:j≠i2:=aO Rj1 hi2;simp only[go_sem,h0,h1,h6,h7,h8];refine PC.useF [i2] (.cons _ _ _ _ (.row _ _ _ (by simp only[List.mem_singleton,if_true];exact aB _ _ _) (ConvE.refl _)) .nil) (D6 hTT (by simp;omega) hTL) ?_;generalize hHN:(fun k=>if k∈[i2]then none else _)=HN;have Rj3:HN j=some (cL qs):=by rw[←hHN];simp only[List.mem_singleton,if_neg nj2];exact Rj2
   clear hHN Rj2 Rj1 Rj;simp only[go_sem,h0,h1,h6,h7,h8];refine PC.use (Ai R n (by omega) (by omega)) ?_;simp only[go_sem,h0,h1,h6,h7,h8];refine aA (fun hc=>?_) (fun hc=>?_)
   · have hlt : R < n := by
       rcases Nat.lt_trichotomy R n with h|h|h
       · exact h
       · rw[oL (by omega)]at hc;cases hc
       · rw[iZ (by omega)]at hc;cases hc
     simp only[go_sem,h0,h1,h6,h7,h8,mH (show k≤4611686018427387904 by omega)];have hq1:qs.set k (R/n)=qs:=by
       rw[Nat.div_eq_of_lt hlt];obtain⟨h1,h2⟩:=List.getElem?_eq_some_iff.1 hq0;rw[←h2];exact List.set_getElem_self h1
     rw[hq1,Nat.mod_eq_of_lt hlt]at hV;rw[hq1]at hzk;exact⟨⟨k,R,qs,by omega,rfl,rfl,Rj3,hq,hql,hlt,hV,hzk⟩,by omega⟩
   simp only[go_sem,h0,h1,h6,h7,h8];refine aA (fun hc2=>?_) (fun hc2=>?_)
   · have heq : R = n := by
       have:=DK.1 (by simpa using hc2);omega
     simp only[go_sem,h0,h1,h6,h7,h8,Rj3,show(cL qs).es.length=qs.length from List.length_map _,b2];refine⟨rfl,dU so3 Rj3 (by simp only[cL,List.length_map];exact⟨by simpa using b2.2,rfl,Nat.le_refl 1⟩) ?_⟩;simp only[go_sem,h0,h1,h6,h7,h8,mH (show k≤4611686018427387904 by omega)];have hq1:R/n=1:=by rw[heq];exact Nat.div_self hn
     have hm1:R%n=0:=by rw[heq];exact Nat.mod_self n
     rw[hq1,hm1]at hV;rw[hq1]at hzk;refine⟨⟨k,0,qs.set k 1,by omega,FH.symm,rfl,?_,hq.set (by decide),by simp[hql],hn,hV,hzk⟩,by omega⟩;exact congrArg some (Bp (q:=1) hq0)
   simp only[go_sem,h0,h1,h6,h7,h8,Rj3];refine PC.use (Bk R n (by omega) hn (by omega) hrb) ?_;simp only[go_sem,h0,h1,h6,h7,h8,Rj3,show(cL qs).es.length=qs.length from List.length_map _,b2];refine⟨rfl,dU so3 Rj3 (by simp only[cL,List.length_map];exact⟨by simpa using b2.2,rfl,Nat.le_refl 1⟩) ?_⟩;generalize hP:aJ HN j _=HP;have Rj4:HP j=some (cL (qs.set k (R/n))):=by
     rw[←hP,aB];exact congrArg some (Bp (q:=R/n) hq0)
   have hg:(qs.set k (R/n))[k]?=some (R/n):=List.getElem?_set_self (by omega);clear hP Rj3;simp only[go_sem,h0,h1,h6,h7,h8,Rj4];have hgl:(cL (qs.set k (R/n))).es.getD k []=iD (R/n):=aH hg;have b3:0≤(k:Int)∧(k:Int)<((cL (qs.set k (R/n))).es.length:Nat):=by
     simp only[cL,List.length_map,List.length_set];exact b2
   simp only[go_sem,hgl,b3];refine⟨rfl,⟨by omega,Nat.zero_lt_one⟩,?_⟩;refine PC.use (M7 n (R/n) (by omega) hQ) ?_;simp only[go_sem,h0,h1,h6,h7,h8,Rj4];refine PC.use (Bi R (n*(R/n)) (by omega) (Nat.mul_div_le R n)) ?_;simp only[go_sem,h0,h1,h6,h7,h8,mH (show k≤4611686018427387904 by omega),hsub];exact⟨⟨k,R%n,qs.set k (R/n),by omega,rfl,rfl,Rj4,hq.set hQ,by simp[hql],hR,hV,hzk⟩,by omega⟩
 · have hk0:k=0:=by simp at hb;omega
   subst hk0;simp only[go_sem,h0,h1,h6,h7,h8];obtain⟨e1,e2⟩:=TT hr hv;rw[List.drop_zero,List.drop_zero,om]at e1;rw[List.drop_zero,om]at e2;refine PC.useF [j] (.cons _ _ _ _ (.row _ _ _ (by simp only[List.mem_singleton,if_true];exact Rj) (ConvE.refl _)) .nil) (D6 hq (by omega) e1) ?_;simp only[go_sem,h7,e2];exact .refl _
end Go.Proofs.YtdlijlecpopadaaGreatDoor.Nu
end
