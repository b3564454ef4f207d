/- Texts joined by a program: NuL, NuM. -/
import Derived.Test.YtdlijlecpopadaaGreatDoorZz14

section
set_option linter.unusedSimpArgs false
set_option linter.unusedVariables false
namespace Go.Proofs.YtdlijlecpopadaaGreatDoor.Nu
open Go.Aw Go.Aw.D Go.Proofs Ty Go.Nu
open Go.RowKit (Below)
set_option maxRecDepth 100000
theorem Jm(s:ByteArray):Lib.hasPrefix (bl s) [45]=eF s:=by
 unfold Lib.hasPrefix eF;cases bl s with
 | nil=>rfl
 | cons c r=>
   by_cases h:c=45
   · subst h;rfl
   · have h1:(some c == some (45:UInt8))=false:=by simpa using h
     have h2:((45:UInt8) == c)=false:=by simpa using Ne.symm h
     simp only[List.isPrefixOf,List.head?_cons,h1,h2,Bool.false_and]
theorem F0(s:ByteArray):(⟨(Lib.trimPrefix (bl s) [45]).toArray⟩:ByteArray)=dN s:=by
 unfold Lib.trimPrefix dN;rw[Jm];split
 · rfl
 · exact abZ s
theorem ML(s:ByteArray):PC Tryz.prog 169 [str s,str ⟨#[45]⟩] (.tup [str (dN s),boo (eF s)]):=by
 refine PC.lib (a:=[.string s,.string ⟨#[45]⟩]) (v:=.tuple #[.string (dN s),.bool (eF s)]) (fun S w=>⟨_,rfl,⟨_,_,rfl,rfl,⟨_,_,rfl,rfl,rfl⟩⟩⟩) fun w _=>(Tryz.strings_CutPrefix s ⟨#[45]⟩ w).mono fun e w' ⟨he,hw⟩=>?_
 rw[hw];refine⟨he.trans ?_,Below.refl _ _⟩;rw[show s.data.toList=bl s from rfl,show(⟨#[45]⟩:ByteArray).data.toList=[45]from rfl,F0,Jm]
theorem wW(s:ByteArray):PC Tryz.prog 87 [str s,str ⟨#[45]⟩] (str (dN s)):=by
 refine PC.lib (a:=[.string s,.string ⟨#[45]⟩]) (v:=.string (dN s)) (fun S w=>rfl) fun w _=>(Tryz.strings_TrimPrefix s ⟨#[45]⟩ w).mono fun e w' ⟨he,hw⟩=>?_
 rw[hw];refine⟨he.trans ?_,Below.refl _ _⟩;rw[show s.data.toList=bl s from rfl,show(⟨#[45]⟩:ByteArray).data.toList=[45]from rfl,F0]
theorem MH(n:Int)(h0: -9223372036854775808≤n)(h1:n≤9223372036854775807):PC Tryz.prog 120 [int n] (str (zed n)):=by
 refine PC.lib (a:=[.int .i64 n]) (v:=.string (zed n)) (fun S w=>rfl) fun w ht=>(Tryz.strconv_Itoa n h0 h1 w (UB ht)).mono fun e w' ⟨he,k,os,hw⟩=>?_
 rw[hw];exact⟨he,mW k os⟩
theorem ZS(a b:ByteArray):PC Tryz.prog 170 [str a,str b] (int (Lib.compareBytes (bl a) (bl b))):=by
 refine PC.lib (a:=[.string a,.string b]) (v:=.int .i64 (Lib.compareBytes (bl a) (bl b))) (fun S w=>rfl) fun w _=>(Tryz.strings_Compare a b w).mono fun e w' ⟨he,hw⟩=>?_
 rw[hw];exact⟨he,Below.refl _ _⟩
theorem Ez:(⟨#[48]⟩:ByteArray)=dec 0:=jR (by rw[gQ,Lib.decDigits_one (by omega)];rfl)
theorem AM:(⟨#[49]⟩:ByteArray)=dec 1:=jR (by rw[gQ,Lib.decDigits_one (by omega)];rfl)
theorem mR(s:ByteArray):(bl s == [48])=eqB s (dec 0):=by unfold eqB;rw[←Ez];rfl
theorem BN(s:ByteArray):(bl s == [49])=eqB s (dec 1):=by unfold eqB;rw[←AM];rfl
theorem AI(s:ByteArray):(dN s).size≤s.size:=by
 unfold dN;split
 · rw[←cA,←cA,iN,List.length_drop];omega
 · exact Nat.le_refl _
theorem CW(s:ByteArray)(h:s.size≤1048576):PC Tryz.prog 115 [str s] (.tup [boo (eF s),str (dN s),boo (eJ s)]):=by
 refine PC.body (c:=Tryz.f115.body.getD .skip) (fun _=>false) mixed Tryz.func115 rfl (by kernel_rfl) ?_;unfold Tryz.f115;simp only[Option.getD_some];simp only[go_sem];refine PC.use (ML s) ?_;simp only[go_sem];refine PC.use (AP (dN s) (by have:=AI s;omega)) ?_;simp only[go_sem,mR];exact .refl _
theorem T4(s:ByteArray)(h:s.size≤1048576):PC Tryz.prog 82 [str s] (boo (eJ s)):=by
 refine PC.body (c:=Tryz.f82.body.getD .skip) (fun _=>false) mixed Tryz.func82 rfl (by kernel_rfl) ?_;unfold Tryz.f82;simp only[Option.getD_some];simp only[go_sem];refine PC.use (CW s h) ?_;simp only[go_sem];exact .refl _
theorem aeG(n:Int)(h0: -9223372036854775808≤n)(h1:n≤9223372036854775807):PC Tryz.prog 61 [int n] (str (zed n)):=by
 refine PC.body (c:=Tryz.f61.body.getD .skip) (fun _=>false) mixed Tryz.func61 rfl (by kernel_rfl) ?_;unfold Tryz.f61;simp only[Option.getD_some];simp only[go_sem];refine PC.use (MH n h0 h1) ?_;simp only[go_sem];exact .refl _
def sg(m:Bool)(n:Nat):Int:=if m=true then -(n:Int)else n
theorem Yl(m:Bool)(n:Nat):(if(m&& !eqB (dec n) (dec 0))=true then(⟨#[45]⟩:ByteArray)++dec n else dec n)=zed (sg m n):=by
 unfold sg;by_cases hn:n=0
 · subst hn
   rw[show eqB (dec 0) (dec 0)=true from kL.2 rfl];simp only[Bool.not_true,Bool.and_false,Bool.false_eq_true,if_false];rw[←dB];split <;> rfl
 · rw[show eqB (dec n) (dec 0)=false from mE.2 fun e=>hn (oS.1 e)]
   cases m with
   | true=>
     simp only[Bool.not_false,Bool.and_true,if_true];rw[Ak (by omega)];refine jR ?_;rw[kV,iN,gQ];rfl
   | false=>
     simp only[Bool.false_and,Bool.false_eq_true,if_false];rw[dB]
theorem Mp(m:Bool)(n:Nat)(hn:(dec n).size≤1048576):PC Tryz.prog 114 [.agg [boo m,str (dec n)]] (str (zed (sg m n))):=by
 refine PC.body (c:=Tryz.f114.body.getD .skip) (fun t=>t == 1) mixed Tryz.func114 rfl (by kernel_rfl) ?_;unfold Tryz.f114;simp only[Option.getD_some];simp only[go_sem];refine aL fun j hj=>?_
 have R:=aA bX j (some ⟨183,2,[[boo m,str (dec n)]]⟩);generalize aI bX j _=H1 at R ⊢;simp only[go_sem,R];have ht:=Yl m n;have he:(m&& !bl (dec n) == [48])=(m&& !eqB (dec n) (dec 0)):=by rw[←mR]
 rw[he];refine aB (fun hb=>?_) (fun hb=>?_)
 · rw[if_pos hb]at ht
   simp only[go_sem,R];refine⟨by show((1+(dec n).size:Nat):Int)≤9223372036854775807;omega,?_⟩;exact cS ht
 · rw[if_neg (by rw[hb];simp)]at ht
   simp only[go_sem,R];exact cS ht
theorem RQ(m:Bool)(n:Nat):(sg m n).natAbs=n:=by unfold sg;split <;> omega
theorem DK(m:Bool)(n:Nat):PC Tryz.prog 172 [.agg [boo m,str (szN n).1],int (szN n).2] (.tup [str (szZ (sg m n)).1,int (szZ (sg m n)).2]):=by
 by_cases hn:n<cG
 · have hsz:=(gW n).2 hn
   rw[uJ hn,show szZ (sg m n)=(zed (sg m n),0)from if_pos (by rw[RQ];exact hn)];refine PC.body (c:=Tryz.f172.body.getD .skip) (fun t=>t == 2) mixed Tryz.func172 rfl (by kernel_rfl) ?_;unfold Tryz.f172;simp only[Option.getD_some];simp only[go_sem];refine aL fun j hj=>?_
   have R:=aA bX j (some ⟨183,2,[[boo m,str (dec n)]]⟩);generalize aI bX j _=H1 at R ⊢;simp only[go_sem,R];refine aB (fun hb=>by cases hb) (fun _=>?_);simp only[go_sem,R];refine PC.use (Mp m n (by omega)) ?_;simp only[go_sem];exact .refl _
 · rw[show szN n=(emp,4)from if_neg hn,show szZ (sg m n)=(emp,4)from if_neg (by rw[RQ];exact hn)]
   refine PC.body (c:=Tryz.f172.body.getD .skip) (fun t=>t == 2) mixed Tryz.func172 rfl (by kernel_rfl) ?_;unfold Tryz.f172;simp only[Option.getD_some];simp only[go_sem];refine aL fun j hj=>?_
   simp only[go_sem];refine aB (fun hb=>?_) (fun hb=>by cases hb);simp only[go_sem];exact .refl _
def CD(s:ByteArray):List AV:=[boo (eF s),str (dN s)]
theorem JB(s:ByteArray):(CD s).length=2:=(rfl)
theorem aaE(s:ByteArray):(CD s).getD 0 .any=boo (eF s):=(rfl)
theorem Zu(s:ByteArray):(CD s).getD 1 .any=str (dN s):=(rfl)
theorem Uc(s:ByteArray):(CD s).take 2=CD s:=(rfl)
attribute [go_sem] JB aaE Zu Uc
def Cv(l:List ByteArray):Row:=⟨183,2,l.map CD⟩
def Vc(s:ByteArray):Bool:=decide ((dN s).size>4096)
def Fb(l:List ByteArray):Int:=if l.any (fun s=> !eJ s)=true then 3 else if l.any Vc=true then 4 else 0
def zL(l:List ByteArray):List (List AV):=if Fb l=0 then l.map CD else[]
theorem Oi{α:Type}{q:α→Bool}{l:List α}{k:Nat}{c:α}(h:l[k]?=some c)(hq:q c=true):l.any q=true:=List.any_eq_true.2 ⟨c,List.mem_of_getElem? h,hq⟩
theorem Lk{α:Type}{q:α→Bool}{l:List α}(h:∀c∈l,q c=false):l.any q=false:=by
 rw[List.any_eq_false];intro c hc;rw[h c hc];simp
theorem Xh(l:List ByteArray)(hl:l.length≤1048576)(hs:∀s∈l,s.size≤1048576):PC Tryz.prog 110 [.sl (l.map Go.Aw.D.eH)] (.tup [.sl (zL l),int (Fb l)]):=by
 refine PC.body (c:=Tryz.f110.body.getD .skip) (fun t=>t == 4) mixed Tryz.func110 rfl (by kernel_rfl) ?_;unfold Tryz.f110;simp only[Option.getD_some];simp only[go_sem];refine aL fun j hj=>?_
 simp only[go_sem];refine⟨fun ρ H=>∃(k j:Nat),k≤l.length∧ρ 12=.sl (l.map Go.Aw.D.eH)∧ρ 13=int l.length∧ρ 4=.os j∧ρ 14=int k∧H j=some (Cv (l.take k))∧∀s∈l.take k,eJ s=true,fun ρ _=>l.length-bE (ρ 14),
   ⟨0,j,Nat.zero_le _,by simp only[go_sem],by simp only[go_sem,List.length_map],by simp only[go_sem],by simp only[go_sem];rfl,aA _ _ _,by simp⟩,?_⟩
 clear hj j;rintro ρ H ⟨k,j,hk,h12,h13,h4,h14,Rj,hz⟩;simp only[go_sem,h12,h13,h4,h14];refine aB (fun hlt=>?_) (fun hge=>?_)
 · have hlt:=ltB hlt
   obtain⟨s,hs0⟩:=aU hlt;have b1:=inB hlt;simp only[go_sem,h12,h13,h4,h14,aH hs0,b1];refine PC.use (CW s (hs s (List.mem_of_getElem? hs0))) ?_;simp only[go_sem,h12,h13,h4,h14];refine aB (fun hb=>?_) (fun hb=>?_)
   · simp only[go_sem]
     have e:Fb l=3:=by unfold Fb;rw[if_pos (Oi hs0 hb)]
     rw[show zL l=[]from if_neg (by rw[e];decide),e];exact .refl _
   · simp only[go_sem,h12,h13,h4,h14]
     refine aX Rj ⟨rfl,rfl⟩ ⟨rfl,trivial⟩ (by simp only[Cv,List.length_map,List.length_take,List.length_cons,List.length_nil];omega) (fun j' hj'=>?_);simp only[go_sem,h12,h13,h4,h14,bA (show k≤4611686018427387904 by omega)];refine⟨⟨k+1,j',hlt,rfl,rfl,?_,sZ hs0 (by simpa using hb) hz⟩,by simp only[aJ];omega⟩;rw[aA];simp only[Cv,cL hs0,List.map_append,List.map_cons,List.map_nil];rfl
 · have hge:=geB hk hge
   subst hge;rw[List.take_length]at Rj hz;have hR:l.any (fun s=> !eJ s)=false:=Lk fun s hs=>by rw[hz s hs];rfl
   have hlen:((Cv l).es.length:Int)=l.length:=by simp[Cv]
   simp only[go_sem,h4,Rj,hlen];refine⟨fun ρ H=>∃(k:Nat),k≤l.length∧ρ 4=.os j∧ρ 33=.os j∧ρ 34=int l.length∧ρ 35=int k∧H j=some (Cv l)∧∀s∈l.take k,Vc s=false,fun ρ _=>l.length-bE (ρ 35),
     ⟨0,Nat.zero_le _,by simp only[go_sem,h4],by simp only[go_sem],by simp only[go_sem],by simp only[go_sem];rfl,Rj,by simp⟩,?_⟩
   clear h4 Rj h12 h13 h14;rintro ρ H ⟨k,hk,h4,h33,h34,h35,Rj,hz2⟩;simp only[go_sem,h4,h33,h34,h35];refine aB (fun hlt=>?_) (fun hge=>?_)
   · have hlt:=ltB hlt
     obtain⟨s,hs0⟩:=aU hlt;have b1:=inB hlt;have hes:(Cv l).es.getD k []=CD s:=aH hs0;have b2:0≤(k:Int)∧(k:Int)<((Cv l).es.length:Nat):=by simp only[Cv,List.length_map];exact b1
     simp only[go_sem,h4,h33,h34,h35,Rj,b2,hes];have hlen2:k<(Cv l).es.length:=by simp only[Cv,List.length_map];exact hlt
     refine⟨rfl,⟨hlen2,Nat.le_refl 2⟩,?_⟩;refine aL fun i hi=>?_
     simp only[go_sem,h4,h33,h34,h35];have nji:j≠i:=aN Rj hi;refine aP (aA _ _ _) (by simp[JB]) ?_;generalize hG:aI (aI _ i _) i _=HG;have Ri:HG i=some (⟨183,2,[CD s]⟩:Row):=by rw[←hG,aA];rfl
     have Rj':HG j=some (Cv l):=by rw[←hG,aC _ _ _ _ nji,aC _ _ _ _ nji];exact Rj
     clear hG hi Rj;simp only[go_sem,h4,h33,h34,h35,Ri];have hd:decide (((dN s).size:Int)>4096)=Vc s:=by unfold Vc;rw[decide_eq_decide];omega
     rw[hd];refine aB (fun hb=>?_) (fun hb=>?_)
     · simp only[go_sem]
       have e:Fb l=4:=by unfold Fb;rw[if_neg (by rw[hR];simp),if_pos (Oi hs0 hb)]
       rw[show zL l=[]from if_neg (by rw[e];decide),e];exact .refl _
     · simp only[go_sem,h4,h33,h34,h35,bA (show k≤4611686018427387904 by omega)]
       exact⟨⟨k+1,hlt,rfl,Rj',sZ hs0 hb hz2⟩,by simp only[aJ];omega⟩
   · have hge:=geB hk hge
     subst hge;rw[List.take_length]at hz2;simp only[go_sem,h4];have e:Fb l=0:=by unfold Fb;rw[if_neg (by rw[hR];simp),if_neg (by rw[Lk hz2];simp)]
     rw[show zL l=l.map CD from if_pos e,e];exact .tup _ _ (.cons _ _ _ _ (.row _ _ _ Rj (ConvE.refl _)) (ConvL.refl _))
end Go.Proofs.YtdlijlecpopadaaGreatDoor.Nu
end

section
set_option linter.unusedSimpArgs false
set_option linter.unusedVariables false
namespace Go.Proofs.YtdlijlecpopadaaGreatDoor.Nu
open Go.Aw Go.Aw.D Go.Proofs Ty Go.Nu
set_option maxRecDepth 100000
theorem A7:∀{l r:List UInt8},l.all isD=true→r.all isD=true→l.length=r.length→Lib.compareBytes l r=gM (gF l) (gF r)
 | [],[],_,_,_=>by rw[nH rfl];rfl
 | [],_::_,_,_,h=>by simp at h
 | _::_,[],_,_,h=>by simp at h
 | a::l,b::r,hl,hr,h=>by
   simp only[List.all_cons,Bool.and_eq_true]at hl hr;simp only[List.length_cons,Nat.add_right_cancel_iff]at h;have ih:=A7 hl.2 hr.2 h;have ea:gF (a::l)=(a.toNat-48)*10^l.length+gF l:=by
     have:=rL [a] l;simpa[gF]using this
   have eb:gF (b::r)=(b.toNat-48)*10^r.length+gF r:=by
     have:=rL [b] r;simpa[gF]using this
   have h1:=CL hl.2;have h2:=CL hr.2;have da:=lB.1 hl.1;have db:=lB.1 hr.1;rw[Lib.compareBytes,ea,eb,←h]at *;have lt1:a<b↔a.toNat<b.toNat:=UInt8.lt_iff_toNat_lt;have lt2:b<a↔b.toNat<a.toNat:=UInt8.lt_iff_toNat_lt;split
   · rename_i hab
     rw[lt1]at hab;have:(a.toNat-48+1)*10^l.length≤(b.toNat-48)*10^l.length:=Nat.mul_le_mul_right _ (by omega);rw[Nat.add_mul]at this;rw[iG (by omega)]
   · split
     · rename_i hab
       rw[lt2]at hab;have:(b.toNat-48+1)*10^l.length≤(a.toNat-48)*10^l.length:=Nat.mul_le_mul_right _ (by omega);rw[Nat.add_mul]at this;rw[iK (by omega)]
     · rename_i n1 n2
       rw[lt1]at n1;rw[lt2]at n2;have:a.toNat=b.toNat:=by omega
       rw[ih,this];generalize (b.toNat-48)*10^l.length=p;unfold gM;have c1:(((p+gF l:Nat):Int)<((p+gF r:Nat):Int))↔((gF l:Nat):Int)<((gF r:Nat):Int):=by omega
       have c2:(((p+gF r:Nat):Int)<((p+gF l:Nat):Int))↔((gF r:Nat):Int)<((gF l:Nat):Int):=by omega
       simp only[c1,c2]
theorem D5(m n:Nat):PC Tryz.prog 116 [str (dec m),str (dec n)] (int (gM m n)):=by
 have hm:=gG m;have hn:=gG n;have hmono:∀{p q:Nat},(Lib.decDigits p).length<(Lib.decDigits q).length→p<q:=fun {p q} h=>by
   have h1:=(iD (n:=p) (k:=(Lib.decDigits p).length) (gV p)).1 (Nat.le_refl _);rcases Nat.lt_or_ge p q with h2|h2
   · exact h2
   · have:=(iD (n:=q) (k:=(Lib.decDigits p).length) (gV p)).2 (by omega)
     omega
 refine PC.body (c:=Tryz.f116.body.getD .skip) (fun _=>false) mixed Tryz.func116 rfl (by kernel_rfl) ?_;unfold Tryz.f116;simp only[Option.getD_some];simp only[go_sem];refine aB (fun h=>?_) (fun h=>?_)
 · have h:(dec m).size≠(dec n).size:=neN h
   simp only[go_sem];refine aB (fun h2=>?_) (fun h2=>?_)
   · have h2:=ltB h2
     simp only[go_sem];have:=hmono (p:=m) (q:=n) (by omega);exact cI (by rw[iG (by omega)])
   · have h2:¬(dec m).size<(dec n).size:=by have:=of_decide_eq_false h2;omega
     simp only[go_sem];have:=hmono (p:=n) (q:=m) (by omega);exact cI (by rw[iK (by omega)])
 · have h:(dec m).size=(dec n).size:=eqN h
   simp only[go_sem];refine PC.use (ZS (dec m) (dec n)) ?_;simp only[go_sem];refine cI ?_;rw[gQ,gQ,A7 (rY m) (rY n) (by omega),nU,nU]
theorem O8(a b:ByteArray)(ha:dF a=true)(hb:dF b=true):PC Tryz.prog 116 [str a,str b] (int (gM (dT a) (dT b))):=by
 have:=D5 (dT a) (dT b)
 rwa [iV ha,iV hb]at this
theorem Bj{s:ByteArray}(h:eJ s=true):dF (dN s)=true:=by
 unfold eJ at h;simp only[Bool.and_eq_true]at h;exact h.1
theorem MO(a b:ByteArray)(ha:a.size≤1048576)(hb:b.size≤1048576):PC Tryz.prog 58 [str a,str b] (int (Jc a b)):=by
 refine PC.body (c:=Tryz.f58.body.getD .skip) (fun _=>false) mixed Tryz.func58 rfl (by kernel_rfl) ?_;unfold Tryz.f58;simp only[Option.getD_some];simp only[go_sem];refine PC.use (CW a ha) ?_;simp only[go_sem];refine PC.use (CW b hb) ?_;simp only[go_sem];refine aB (fun h=>?_) (fun h=>?_)
 · simp only[go_sem]
   refine cI ?_;unfold Jc;rw[if_neg];rintro⟨h1,h2⟩;rw[h1,h2]at h;cases h
 have hr:eJ a=true∧eJ b=true:=by simpa using h
 have ra:=Bj hr.1;have rb:=Bj hr.2;have hpos:∀{s:ByteArray},eJ s=true→eF s=true→0<dT (dN s):=fun {s} h1 h2=>by
   have h3:=h1;unfold eJ at h3;simp only[h2,Bool.true_and,Bool.and_eq_true,Bool.not_eq_true',mE]at h3;rcases Nat.eq_zero_or_pos (dT (dN s))with h0|h0
   · have:=iV h3.1
     rw[h0]at this;exact absurd this.symm h3.2
   · exact h0
 have hv:Jc a b=gM (fL a) (fL b):=if_pos hr;rw[hv];unfold fL;simp only[go_sem];refine aB (fun h2=>?_) (fun h2=>?_)
 · have h2:eF a=true∧eF b=true:=by simpa using h2
   simp only[go_sem];refine PC.use (O8 _ _ rb ra) ?_;simp only[go_sem];refine cI ?_;rw[if_pos h2.1,if_pos h2.2];unfold gM;have c1:(((dT (dN b):Nat):Int)<((dT (dN a):Nat):Int))↔(-((dT (dN a):Nat):Int)< -((dT (dN b):Nat):Int)):=by omega
   have c2:(((dT (dN a):Nat):Int)<((dT (dN b):Nat):Int))↔(-((dT (dN b):Nat):Int)< -((dT (dN a):Nat):Int)):=by omega
   simp only[c1,c2]
 · simp only[go_sem]
   refine aB (fun h3=>?_) (fun h3=>?_)
   · have h4:eF b=false:=by rw[h3]at h2;simpa using h2
     have:=hpos hr.1 h3;simp only[go_sem];refine cI ?_;rw[if_pos h3,if_neg (by rw[h4];simp),iG (by omega)]
   · simp only[go_sem]
     refine aB (fun h4=>?_) (fun h4=>?_)
     · have:=hpos hr.2 h4
       simp only[go_sem];refine cI ?_;rw[if_neg (by rw[h3];simp),if_pos h4,iK (by omega)]
     · simp only[go_sem]
       refine PC.use (O8 _ _ ra rb) ?_;simp only[go_sem];refine cI ?_;rw[if_neg (by rw[h3];simp),if_neg (by rw[h4];simp)]
def kC(m:Bool)(n:Nat):List AV:=[boo m,str (dec n)]
theorem BJ(m:Bool)(n:Nat):(kC m n).length=2:=(rfl)
theorem XN(m:Bool)(n:Nat):(kC m n).getD 0 .any=boo m:=(rfl)
theorem Ya(m:Bool)(n:Nat):(kC m n).getD 1 .any=str (dec n):=(rfl)
theorem RH(m:Bool)(n:Nat):(kC m n).take 2=kC m n:=(rfl)
attribute [go_sem] BJ XN Ya RH
theorem L6{m n:Nat}(hm:m<cG)(hn:n<cG):Ny (dec m) (dec n)=szN (m+n):=by unfold Ny;rw[if_pos (tS hm hn),bT,bT]
theorem KW{m n:Nat}(hm:m<cG)(hn:n<cG)(h:n≤m):N0 (dec m) (dec n)=szN (m-n):=by unfold N0;rw[if_pos (tS hm hn),bT,bT,if_neg (by omega)]
theorem dA{m:Nat}(hm:m<cG):(dec m).size≤1048576:=by have:=(gW m).2 hm;omega
theorem Y0(a b:Bool)(m n:Nat)(hm:m<cG)(hn:n<cG):PC Tryz.prog 119 [.agg (kC a m),.agg (kC b n)] (.tup [str (szZ (sg a m+sg b n)).1,int (szZ (sg a m+sg b n)).2]):=by
 refine PC.body (c:=Tryz.f119.body.getD .skip) (fun t=>t == 2||t == 3) mixed Tryz.func119 rfl (by kernel_rfl) ?_;unfold Tryz.f119;simp only[Option.getD_some];simp only[go_sem];refine aL fun i hi=>?_
 simp only[go_sem];refine aL fun j hj=>?_
 have R2:=aA bX i (some ⟨183,2,[kC a m]⟩);have nij:i≠j:=aN R2 hj;have R3:=aA (aI bX i (some ⟨183,2,[kC a m]⟩)) j (some ⟨183,2,[kC b n]⟩);have R2':(aI (aI bX i (some ⟨183,2,[kC a m]⟩)) j (some ⟨183,2,[kC b n]⟩)) i=some ⟨183,2,[kC a m]⟩:=by rw[aC _ _ _ _ nij];exact R2
 generalize aI (aI bX i _) j _=H1 at *;clear R2;simp only[go_sem,R2',R3];refine aB (fun h=>?_) (fun h=>?_)
 · have hab:a=b:=by simpa using h
   subst hab;simp only[go_sem,R2',R3];refine PC.use (Td (dec m) (dec n) (dA hm) (dA hn)) ?_;rw[L6 hm hn];simp only[go_sem,R2',R3];refine PC.use (DK a (m+n)) ?_;simp only[go_sem];have e:sg a (m+n)=sg a m+sg a n:=by unfold sg;split <;> omega
   rw[e];exact .refl _
 have hab:b= !a:=by cases a <;> cases b <;> simp_all
 subst hab;simp only[go_sem,R2',R3];refine PC.use (D5 m n) ?_;simp only[go_sem,R2',R3];refine aW (fun ρ' H'=>∃(a' b':Bool) (p q:Nat),p<cG∧q<cG∧q≤p∧sg a' (p-q)=sg a m+sg (!a) n∧ρ' 2=.op i 0 0∧ρ' 3=.op j 0 0∧H' i=some (⟨183,2,[kC a' p]⟩:Row)∧H' j=some (⟨183,2,[kC b' q]⟩:Row)) ?_ fun K hK=>aB (fun hb=>?_) (fun hb=>?_)
 rotate_left
 · have hlt : m < n := by
     rcases Nat.lt_or_ge m n with h|h
     · exact h
     · exfalso
       have hb:=of_decide_eq_true hb;unfold gM at hb;rw[if_neg (by omega)]at hb;split at hb <;> omega
   simp only[go_sem,R2',R3];refine aP R2' (by simp[BJ]) ?_;generalize hP:aI H1 i _=HP;have R2:HP i=some (⟨183,2,[kC (!a) n]⟩:Row):=by rw[←hP,aA];rfl
   have R3':HP j=some (⟨183,2,[kC (!a) n]⟩:Row):=by rw[←hP,aC _ _ _ _ (Ne.symm nij)];exact R3
   clear hP;simp only[go_sem,R2,R3'];refine aP R3' (by simp[BJ]) ?_;generalize hP:aI HP j _=HQ;have S3:HQ j=some (⟨183,2,[kC a m]⟩:Row):=by rw[←hP,aA];rfl
   have S2:HQ i=some (⟨183,2,[kC (!a) n]⟩:Row):=by rw[←hP,aC _ _ _ _ nij];exact R2
   clear hP;simp only[go_sem];refine hK _ _ ⟨!a,a,n,m,hn,hm,by omega,?_,by simp only[go_sem],by simp only[go_sem],S2,S3⟩;unfold sg;cases a <;> simp <;> omega
 · have hge : n ≤ m := by
     rcases Nat.lt_or_ge m n with h|h
     · exact absurd (by rw[iG (by omega)];decide) (of_decide_eq_false hb)
     · exact h
   simp only[go_sem];refine hK _ _ ⟨a,!a,m,n,hm,hn,hge,?_,by simp only[go_sem],by simp only[go_sem],R2',R3⟩;unfold sg;cases a <;> simp <;> omega
 clear R2' R3;rintro ρ H ⟨a',b',p,q,hp,hq,hqp,hv,h2,h3,R2,R3⟩;simp only[go_sem,h2,h3,R2,R3];refine PC.use (U9 (dec p) (dec q) (dA hp) (dA hq)) ?_;rw[KW hp hq hqp];simp only[go_sem,h2,h3,R2,R3];refine PC.use (DK a' (p-q)) ?_;simp only[go_sem];rw[hv];exact .refl _
theorem Jy(a b:ByteArray):Fb [a,b]=iX a b:=by
 unfold Fb iX Vc;simp only[List.any_cons,List.any_nil,Bool.or_false]
theorem TW(n:Int):CD (zed n)=kC (decide (n<0)) n.natAbs:=by
 unfold CD kC;rw[oP,gY]
theorem BR(n:Int):sg (decide (n<0)) n.natAbs=n:=by
 unfold sg;by_cases h:n<0
 · simp[h];omega
 · simp[h];omega
theorem Is{m n:Int}(h:iX (zed m) (zed n)=0):zL [zed m,zed n]=[kC (decide (m<0)) m.natAbs,kC (decide (n<0)) n.natAbs]:=by
 unfold zL;rw[Jy,if_pos h];simp only[List.map_cons,List.map_nil,TW]
theorem Af(a b:ByteArray)(ha:a.size≤1048576)(hb:b.size≤1048576):PC Tryz.prog 110 [.sl [[str a],[str b]]] (.tup [.sl (zL [a,b]),int (iX a b)]):=by
 have:=Xh [a,b] (by simp) (by simp[ha,hb])
 rwa [Jy]at this
theorem ZG(a b:ByteArray)(ha:a.size≤1048576)(hb:b.size≤1048576):PC Tryz.prog 60 [str a,str b] (.tup [str (EM a b).1,int (EM a b).2]):=by
 refine PC.body (c:=Tryz.f60.body.getD .skip) (fun _=>false) mixed Tryz.func60 rfl (by kernel_rfl) ?_;unfold Tryz.f60;simp only[Option.getD_some];simp only[go_sem];refine PC.use (Af a b ha hb) ?_;simp only[go_sem];refine aB (fun h=>?_) (fun h=>?_)
 · have h:iX a b≠0:=by simpa using h
   simp only[go_sem];rw[show EM a b=(emp,iX a b)from if_neg h];exact .refl _
 have h:iX a b=0:=by simpa using h
 have e:EM a b=szZ (fL a+fL b):=if_pos h;rw[e];obtain⟨m,n,rfl,rfl,hm,hn⟩:=nG h;rw[bY,bY,Is h];simp only[go_sem];refine gA (by rfl) (by kernel_rfl) ?_;simp only[go_sem,List.length_cons,List.length_nil]
 repeat (refine⟨by first|decide|omega,?_⟩)
 refine⟨_,(Y0 _ _ _ _ hm hn).q rfl,?_⟩;simp only[go_sem];rw[BR,BR];exact .refl _
theorem aaS(a b:ByteArray)(ha:a.size≤1048576)(hb:b.size≤1048576):PC Tryz.prog 67 [str a,str b] (.tup [str (Rq a b).1,int (Rq a b).2]):=by
 refine PC.body (c:=Tryz.f67.body.getD .skip) (fun _=>false) mixed Tryz.func67 rfl (by kernel_rfl) ?_;unfold Tryz.f67;simp only[Option.getD_some];simp only[go_sem];refine PC.use (Af a b ha hb) ?_;simp only[go_sem];refine aB (fun h=>?_) (fun h=>?_)
 · have h:iX a b≠0:=by simpa using h
   simp only[go_sem];rw[show Rq a b=(emp,iX a b)from if_neg h];exact .refl _
 have h:iX a b=0:=by simpa using h
 have e:Rq a b=szZ (fL a-fL b):=if_pos h;rw[e];obtain⟨m,n,rfl,rfl,hm,hn⟩:=nG h;rw[bY,bY,Is h];simp only[go_sem];refine gA (by rfl) (by kernel_rfl) ?_;simp only[go_sem,List.length_cons,List.length_nil]
 repeat (refine⟨by first|decide|omega,?_⟩)
 have hneg:sg (!decide (n<0)) n.natAbs= -n:=by
   unfold sg;by_cases h:n<0
   · simp[h];omega
   · simp[h];omega
 refine⟨_,(Y0 _ (!decide (n<0)) _ _ hm hn).q rfl,?_⟩;simp only[go_sem];rw[BR,hneg,Int.sub_eq_add_neg];exact .refl _
theorem SG{m n:Nat}(hm:m<cG)(hn:n<cG):Ng (dec m) (dec n)=szN (m*n):=by unfold Ng;rw[if_pos (tS hm hn),bT,bT]
theorem aaZ(a b:ByteArray)(ha:a.size≤1048576)(hb:b.size≤1048576):PC Tryz.prog 171 [str a,str b] (.tup [str (sQ a b).1,int (sQ a b).2]):=by
 refine PC.body (c:=Tryz.f171.body.getD .skip) (fun _=>false) mixed Tryz.func171 rfl (by kernel_rfl) ?_;unfold Tryz.f171;simp only[Option.getD_some];simp only[go_sem];refine PC.use (Af a b ha hb) ?_;simp only[go_sem];refine aB (fun h=>?_) (fun h=>?_)
 · have h:iX a b≠0:=by simpa using h
   simp only[go_sem];rw[show sQ a b=(emp,iX a b)from if_neg h];exact .refl _
 have h:iX a b=0:=by simpa using h
 have e:sQ a b=szZ (fL a*fL b):=if_pos h;rw[e];obtain⟨m,n,rfl,rfl,hm,hn⟩:=nG h;rw[bY,bY,Is h];simp only[go_sem];refine gA (by rfl) (by kernel_rfl) ?_;simp only[go_sem,List.length_cons,List.length_nil]
 repeat (refine⟨by first|decide|omega,?_⟩)
 refine⟨_,(abF (dec m.natAbs) (dec n.natAbs) (dA hm) (dA hn)).q rfl,?_⟩;rw[SG hm hn];simp only[go_sem];refine gA (by rfl) (by kernel_rfl) ?_;simp only[go_sem,List.length_cons,List.length_nil]
 repeat (refine⟨by first|decide|omega,?_⟩)
 refine⟨_,(DK _ (m.natAbs*n.natAbs)).q rfl,?_⟩;simp only[go_sem];have hs:sg (!(decide (m<0) == decide (n<0))) (m.natAbs*n.natAbs)=m*n:=by
   unfold sg;rw[Int.natCast_mul];by_cases h1:m<0 <;> by_cases h2:n<0
   · simp only[h1,h2,decide_true,beq_self_eq_true,Bool.not_true,Bool.false_eq_true,if_false]
     rw[Int.ofNat_natAbs_of_nonpos (by omega),Int.ofNat_natAbs_of_nonpos (by omega),Int.neg_mul_neg]
   · simp only[h1,h2,decide_true,decide_false]
     rw[if_pos (show(!(true == false))=true from rfl),Int.ofNat_natAbs_of_nonpos (by omega),Int.natAbs_of_nonneg (by omega),Int.neg_mul,Int.neg_neg]
   · simp only[h1,h2,decide_true,decide_false]
     rw[if_pos (show(!(false == true))=true from rfl),Int.ofNat_natAbs_of_nonpos (a:=n) (by omega),Int.natAbs_of_nonneg (by omega),Int.mul_neg,Int.neg_neg]
   · simp only[h1,h2,decide_false,beq_self_eq_true,Bool.not_true,Bool.false_eq_true,if_false]
     rw[Int.natAbs_of_nonneg (by omega),Int.natAbs_of_nonneg (by omega)]
 rw[hs];exact .refl _
theorem yV{P : Program}{C : lK}{PC : FuncId → List AV → aG → AV → Prop}{mt : Nat → Bool}{ops : Array Oper}{K : Env → aG → Prop}{m : Nat}{ρ : Env}{H : aG}(J : Env → aG → Prop)(h1 : ∀ ρ H, J ρ H → K ρ H)
 (h2:∀K':Env→aG→Prop,(∀ρ H,J ρ H→K' ρ H)→sC P C PC mt ops K' m ρ H):sC P C PC mt ops K m ρ H:=h2 K h1
abbrev Qe(A:List AV):Row:=⟨183,2,[A]⟩
abbrev zN:Row:=Qe [.v (.bool false),.v (.string ByteArray.empty)]
theorem AX{A:List AV}(h:A.length=2):(⟨183,2,[List.take 2 A++List.drop (List.take 2 A).length [AV.v (.bool false),AV.v (.string ByteArray.empty)]]⟩:Row)=Qe A:=by
 rw[List.take_of_length_le (by omega),h];simp
theorem Ci{m n : Int}(hn : n ≠ 0)(hs : decide (m < 0) ≠ decide (n < 0))(hr : m.natAbs % n.natAbs ≠ 0):
   m.fdiv n= -((m.natAbs/n.natAbs+1:Nat):Int)∧m.fmod n=sg (decide (n<0)) (n.natAbs-m.natAbs%n.natAbs):=by
 have e:=Nat.mod_add_div m.natAbs n.natAbs;have hlt:=Nat.mod_lt m.natAbs (show 0<n.natAbs by omega);generalize m.natAbs/n.natAbs=q at *;generalize m.natAbs%n.natAbs=r at *;have e':(r:Int)+(n.natAbs:Int)*(q:Int)=(m.natAbs:Int):=by rw[←Int.natCast_mul,←Int.natCast_add,e]
 unfold sg;rcases Int.lt_or_gt_of_ne hn with h|h
 · have hm:¬m<0:=fun h2=>hs (by simp[h,h2])
   rw[Int.ofNat_natAbs_of_nonpos (a:=n) (by omega),Int.natAbs_of_nonneg (a:=m) (by omega)]at e';refine(Int.fdiv_fmod_unique' h).2 ⟨?_,?_,?_⟩
   · rw[if_pos (by simpa using h)]
     have:(n* -((q+1:Nat):Int))= -n*q-n:=by grind
     rw[this];omega
   · rw[if_pos (by simpa using h)];omega
   · rw[if_pos (by simpa using h)];omega
 · have hm : m < 0 := by
     rcases Int.lt_or_le m 0 with h2|h2
     · exact h2
     · exact absurd (by simp;omega) hs
   rw[Int.natAbs_of_nonneg (a:=n) (by omega),Int.ofNat_natAbs_of_nonpos (a:=m) (by omega)]at e';refine(Int.fdiv_fmod_unique h).2 ⟨?_,?_,?_⟩
   · rw[if_neg (by simp;omega)]
     have:(n* -((q+1:Nat):Int))= -(n*q)-n:=by grind
     rw[this];omega
   · rw[if_neg (by simp;omega)];omega
   · rw[if_neg (by simp;omega)];omega
theorem F8{m n : Int}(hn : n ≠ 0)(h0 : decide (m < 0) = decide (n < 0) ∨ m.natAbs % n.natAbs = 0):
   m.fdiv n=sg (!(decide (m<0) == decide (n<0))) (m.natAbs/n.natAbs)∧m.fmod n=sg (decide (n<0)) (m.natAbs%n.natAbs):=by
 have e:=Nat.mod_add_div m.natAbs n.natAbs;have hlt:=Nat.mod_lt m.natAbs (show 0<n.natAbs by omega);generalize m.natAbs/n.natAbs=q at *;generalize m.natAbs%n.natAbs=r at *;have e':(r:Int)+(n.natAbs:Int)*(q:Int)=(m.natAbs:Int):=by rw[←Int.natCast_mul,←Int.natCast_add,e]
 unfold sg;rcases Int.lt_or_gt_of_ne hn with h|h
 · rw[Int.ofNat_natAbs_of_nonpos (a:=n) (by omega)]at e'
   refine(Int.fdiv_fmod_unique' h).2 ?_;by_cases hm:m<0
   · rw[Int.ofNat_natAbs_of_nonpos (a:=m) (by omega)]at e'
     simp only[h,hm,decide_true,beq_self_eq_true,Bool.not_true,Bool.false_eq_true,if_false,if_true];have:n*(q:Int)= -(-n*q):=by grind
     exact⟨by rw[this];omega,by omega,by omega⟩
   · rw[Int.natAbs_of_nonneg (a:=m) (by omega)]at e'
     have hr:r=0:=by
       rcases h0 with h0|h0
       · simp[h,hm]at h0
       · exact h0
     simp only[h,hm,decide_true,decide_false,show(!(false == true))=true from rfl,if_true];have:n* -(q:Int)= -n*q:=by grind
     exact⟨by rw[this];omega,by omega,by omega⟩
 · rw[Int.natAbs_of_nonneg (a:=n) (by omega)]at e'
   refine(Int.fdiv_fmod_unique h).2 ?_;have hn0:¬n<0:=by omega
   by_cases hm:m<0
   · rw[Int.ofNat_natAbs_of_nonpos (a:=m) (by omega)]at e'
     have hr:r=0:=by
       rcases h0 with h0|h0
       · simp[hn0,hm]at h0
       · exact h0
     simp only[hn0,hm,decide_true,decide_false,show(!(true == false))=true from rfl,if_true,Bool.false_eq_true,if_false];have:n* -(q:Int)= -(n*q):=by grind
     exact⟨by rw[this];omega,by omega,by omega⟩
   · rw[Int.natAbs_of_nonneg (a:=m) (by omega)]at e'
     simp only[hn0,hm,decide_false,beq_self_eq_true,Bool.not_true,Bool.false_eq_true,if_false];exact⟨by omega,by omega,by omega⟩
theorem JD{m n:Nat}(hm:m<cG)(hn:n<cG)(h:n≠0):Ay (dec m) (dec n)=(dec (m/n),dec (m%n),0):=by unfold Ay;rw[if_pos (tS hm hn),bT,bT,if_neg h]
theorem HI(a b:ByteArray)(ha:a.size≤1048576)(hb:b.size≤1048576):PC Tryz.prog 57 [str a,str b] (.tup [str (rJ a b).1,str (rJ a b).2.1,int (rJ a b).2.2]):=by
 refine PC.body (c:=Tryz.f57.body.getD .skip) (fun _=>false) mixed Tryz.func57 rfl (by kernel_rfl) ?_;unfold Tryz.f57;simp only[Option.getD_some];simp only[go_sem];refine PC.use (Af a b ha hb) ?_;simp only[go_sem];refine aB (fun h=>?_) (fun h=>?_)
 · have h:iX a b≠0:=by simpa using h
   simp only[go_sem];rw[show rJ a b=(emp,emp,iX a b)from if_neg h];exact .refl _
 have h:iX a b=0:=by simpa using h
 obtain⟨m,n,rfl,rfl,hm,hn⟩:=nG h;have e:rJ (zed m) (zed n)=if n=0 then(emp,emp,10)else(zed (m.fdiv n),zed (m.fmod n),0):=by unfold rJ;rw[if_pos h,bY,bY]
 rw[e,Is h];simp only[go_sem];obtain⟨A,hA⟩:∃A,kC (decide (m<0)) m.natAbs=A:=⟨_,rfl⟩;obtain⟨B,hB⟩:∃B,kC (decide (n<0)) n.natAbs=B:=⟨_,rfl⟩;have hAl:A.length=2:=by rw[←hA];rfl
 have hBl:B.length=2:=by rw[←hB];rfl
 refine yV (fun ρ' H'=>∃i j,ρ' 9=.op i 0 0∧ρ' 10=.op j 0 0∧H' i=some (Qe A)∧H' j=some (Qe B)) ?_ fun K hK=>?_
 rotate_left
 · refine AC [] (.q 0 (.q 1 (.q 2 (.q 3 (.q 4 (.q 5 (.a2 6 (.a1 7 (.a1 8 (.a1 9 .nil))) 7 (.a1 6 (.a1 8 (.a1 9 .nil)))))))))) (by simp) (by kernel_rfl) fun Hp Hr _ hq _ _=>?_
   simp only[go_sem,List.length_cons,List.length_nil,hA,hB]
   repeat (refine⟨by first|decide|omega,?_⟩)
   refine lG ?_ ?_
   · simp only[go_sem]
     refine aL fun i hi=>?_
     simp only[go_sem];refine aL fun j hj=>?_
     have R:=aA Hr i (some (zN));have nij:=aN R hj;have Ri:=kA (r':=zN) R hj;have Rj:=aA (aI Hr i (some (zN))) j (some (zN));simp only[go_sem];refine aP (r:=zN) Ri (by simp[hAl]) ?_;simp only[go_sem];refine aP (r:=zN) (by rw[aC _ _ _ _ nij.symm];exact Rj) (by simp[hBl]) ?_;simp only[go_sem];refine kO fun _ Hm _ hm=>hK _ _ ⟨i,j,by simp only[go_sem],by simp only[go_sem],?_,?_⟩
     · rw[hm i (by simp),aC _ _ _ _ nij,aA];exact congrArg some (AX hAl)
     · rw[hm j (by simp),aA];exact congrArg some (AX hBl)
   · simp only[go_sem]
     refine aL fun j hj=>?_
     simp only[go_sem];refine aL fun i hi=>?_
     have R:=aA Hr j (some (zN));have nij:=(aN R hi).symm;have Rj:=kA (r':=zN) R hi;have Ri:=aA (aI Hr j (some (zN))) i (some (zN));simp only[go_sem];refine aP (r:=zN) Ri (by simp[hAl]) ?_;simp only[go_sem];refine aP (r:=zN) (by rw[aC _ _ _ _ nij.symm];exact Rj) (by simp[hBl]) ?_;simp only[go_sem];refine kO fun _ Hm _ hm=>hK _ _ ⟨i,j,by simp only[go_sem],by simp only[go_sem],?_,?_⟩
     · rw[hm i (by simp),aC _ _ _ _ nij,aA];exact congrArg some (AX hAl)
     · rw[hm j (by simp),aA];exact congrArg some (AX hBl)
 rintro ρ H ⟨i,j,h9,h10,Ri,Rj⟩;subst hA hB;simp only[go_sem,h9,h10,Ri,Rj,mR];refine aB (fun hb0=>?_) (fun hb0=>?_)
 · have h0 : n = 0 := by
     have:=oS.1 (kL.1 hb0);omega
   simp only[go_sem];rw[if_pos h0];exact .refl _
 have h0:n≠0:=fun e=>by
   subst e;exact mE.1 hb0 rfl
 have hn0:n.natAbs≠0:=by omega
 rw[if_neg h0];simp only[go_sem,h9,h10,Ri,Rj];refine PC.use (aaK (dec m.natAbs) (dec n.natAbs) (dA hm) (dA hn)) ?_;rw[JD hm hn hn0];simp only[go_sem,h9,h10,Ri,Rj];refine aB (fun hb=>by cases hb) (fun _=>?_);simp only[go_sem,h9,h10,Ri,Rj,mR];have hqr:=Nat.mod_add_div m.natAbs n.natAbs;have hrlt:=Nat.mod_lt m.natAbs (show 0<n.natAbs by omega);refine aW (fun ρ' H'=>∃q r:Nat,ρ' 9=.op i 0 0∧ρ' 10=.op j 0 0∧H' i=some (Qe (kC (decide (m<0)) m.natAbs))∧H' j=some (Qe (kC (decide (n<0)) n.natAbs))∧ρ' 11=str (dec q)∧ρ' 12=str (dec r)∧q<cG∧r<cG∧sg (!(decide (m<0) == decide (n<0))) q=m.fdiv n∧sg (decide (n<0)) r=m.fmod n) ?_ fun K hK=>aB (fun hb=>?_) (fun hb=>?_)
 rotate_left
 · have hb : decide (m < 0) ≠ decide (n < 0) ∧ m.natAbs % n.natAbs ≠ 0 := by
     simp only[Bool.and_eq_true,Bool.not_eq_true',beq_eq_false_iff_ne,ne_eq,mE]at hb;exact⟨hb.1,fun e=>hb.2 (by rw[e])⟩
   obtain⟨f1,f2⟩:=Ci h0 hb.1 hb.2;have hq1:m.natAbs/n.natAbs+1<cG:=by
     have h2:2≤n.natAbs:=by omega
     have h3:2*(m.natAbs/n.natAbs)≤n.natAbs*(m.natAbs/n.natAbs):=Nat.mul_le_mul_right _ h2;omega
   have hq2:m.natAbs/n.natAbs<cG:=by omega
   have h1m:(1:Nat)<cG:=Nat.lt_of_le_of_lt (Nat.le_add_left 1 _) hq1;have hrm:m.natAbs%n.natAbs<cG:=by omega
   generalize hQ:m.natAbs/n.natAbs=q at *;generalize hR:m.natAbs%n.natAbs=r at *;simp only[go_sem,h9,h10];rw[AM];refine PC.use (Td (dec q) (dec 1) (dA hq2) (dA h1m)) ?_;rw[L6 hq2 h1m,uJ hq1];simp only[go_sem,h9,h10,Ri,Rj];refine aB (fun hb=>by cases hb) (fun _=>?_);simp only[go_sem,h9,h10,Ri,Rj];refine PC.use (U9 (dec n.natAbs) (dec r) (dA hn) (dA hrm)) ?_;rw[KW hn hrm (by omega),uJ (show n.natAbs-r<cG by omega)];simp only[go_sem,h9,h10,Ri,Rj];refine aB (fun hb=>by cases hb) (fun _=>?_);simp only[go_sem,h9,h10];refine hK _ _ ⟨q+1,n.natAbs-r,by simp only[go_sem,h9],by simp only[go_sem,h10],Ri,Rj,by simp only[go_sem],by simp only[go_sem],hq1,by omega,?_,f2.symm⟩;rw[f1];unfold sg;rw[if_pos (by simpa using hb.1)]
 · have hb : decide (m < 0) = decide (n < 0) ∨ m.natAbs % n.natAbs = 0 := by
     by_cases h1:decide (m<0)=decide (n<0)
     · exact .inl h1
     · refine .inr ?_
       have h2:(!(decide (m<0) == decide (n<0)))=true:=by simpa using h1
       rw[h2,Bool.true_and,Bool.not_eq_false']at hb;exact oS.1 (kL.1 hb)
   obtain⟨f1,f2⟩:=F8 h0 hb;have hq2:m.natAbs/n.natAbs<cG:=Nat.lt_of_le_of_lt (Nat.div_le_self _ _) hm;simp only[go_sem,h9,h10];exact hK _ _ ⟨_,_,by simp only[go_sem,h9],by simp only[go_sem,h10],Ri,Rj,by simp only[go_sem],by simp only[go_sem],hq2,by omega,f1.symm,f2.symm⟩
 clear h9 h10 Ri Rj;rintro ρ H ⟨q,r,h9,h10,Ri,Rj,h11,h12,hq,hr,f1,f2⟩;simp only[go_sem];refine gA (by rfl) (by kernel_rfl) ?_;simp only[go_sem,h9,h10,h11,h12,Ri,Rj];refine⟨_,(Mp _ q (dA hq)).q rfl,?_⟩;simp only[go_sem,h9,h10,h11,h12,Ri,Rj];refine⟨_,(Mp _ r (dA hr)).q rfl,?_⟩;simp only[go_sem,f1,f2];exact .refl _
end Go.Proofs.YtdlijlecpopadaaGreatDoor.Nu
end
