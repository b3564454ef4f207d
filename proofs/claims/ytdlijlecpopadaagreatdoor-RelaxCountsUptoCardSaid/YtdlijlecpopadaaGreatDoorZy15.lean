/- Texts joined by a program: NuL, NuM. -/
import Derived.Test.YtdlijlecpopadaaGreatDoorZy14

section
set_option linter.unusedSimpArgs false
set_option linter.unusedVariables false
namespace Go.Proofs.YtdlijlecpopadaaGreatDoor.Nu
open Go.Aw Go.Aw.D Go.Proofs Ty Go.Nu
open Go.RowKit (Below)
set_option maxRecDepth 100000
theorem Ks(s:ByteArray):Lib.hasPrefix (bl s) [45]=dZ s:=by
 unfold Lib.hasPrefix dZ;cases bl s with
 | nil=>rfl
 | cons c r=>
   by_cases h:c=45
   · subst h;rfl
   · have h1:(some c == some (45:UInt8))=false:=by simpa using h
     have h2:((45:UInt8) == c)=false:=by simpa using Ne.symm h
     simp only[List.isPrefixOf,List.head?_cons,h1,h2,Bool.false_and]
theorem EQ(s:ByteArray):(⟨(Lib.trimPrefix (bl s) [45]).toArray⟩:ByteArray)=dO s:=by
 unfold Lib.trimPrefix dO;rw[Ks];split
 · rfl
 · exact akY s
theorem LN(s:ByteArray):PC Tryz.prog 169 [str s,str ⟨#[45]⟩] (.tup [str (dO s),boo (dZ s)]):=by
 refine PC.lib (a:=[.string s,.string ⟨#[45]⟩]) (v:=.tuple #[.string (dO s),.bool (dZ s)]) (fun S w=>⟨_,rfl,⟨_,_,rfl,rfl,⟨_,_,rfl,rfl,rfl⟩⟩⟩) fun w _=>(Tryz.strings_CutPrefix s ⟨#[45]⟩ w).mono fun e w' ⟨he,hw⟩=>?_
 rw[hw];refine⟨he.trans ?_,Below.refl _ _⟩;rw[show s.data.toList=bl s from rfl,show(⟨#[45]⟩:ByteArray).data.toList=[45]from rfl,EQ,Ks]
theorem wC(s:ByteArray):PC Tryz.prog 87 [str s,str ⟨#[45]⟩] (str (dO s)):=by
 refine PC.lib (a:=[.string s,.string ⟨#[45]⟩]) (v:=.string (dO s)) (fun S w=>rfl) fun w _=>(Tryz.strings_TrimPrefix s ⟨#[45]⟩ w).mono fun e w' ⟨he,hw⟩=>?_
 rw[hw];refine⟨he.trans ?_,Below.refl _ _⟩;rw[show s.data.toList=bl s from rfl,show(⟨#[45]⟩:ByteArray).data.toList=[45]from rfl,EQ]
theorem LK(n:Int)(h0: -9223372036854775808≤n)(h1:n≤9223372036854775807):PC Tryz.prog 120 [int n] (str (zed n)):=by
 refine PC.lib (a:=[.int .i64 n]) (v:=.string (zed n)) (fun S w=>rfl) fun w ht=>(Tryz.strconv_Itoa n h0 h1 w (Tj ht)).mono fun e w' ⟨he,k,os,hw⟩=>?_
 rw[hw];exact⟨he,mH k os⟩
theorem ZR(a b:ByteArray):PC Tryz.prog 170 [str a,str b] (int (Lib.compareBytes (bl a) (bl b))):=by
 refine PC.lib (a:=[.string a,.string b]) (v:=.int .i64 (Lib.compareBytes (bl a) (bl b))) (fun S w=>rfl) fun w _=>(Tryz.strings_Compare a b w).mono fun e w' ⟨he,hw⟩=>?_
 rw[hw];exact⟨he,Below.refl _ _⟩
theorem D9:(⟨#[48]⟩:ByteArray)=dec 0:=jJ (by rw[gI,Lib.decDigits_one (by omega)];rfl)
theorem zW:(⟨#[49]⟩:ByteArray)=dec 1:=jJ (by rw[gI,Lib.decDigits_one (by omega)];rfl)
theorem mE(s:ByteArray):(bl s == [48])=eqB s (dec 0):=by unfold eqB;rw[←D9];rfl
theorem AL(s:ByteArray):(bl s == [49])=eqB s (dec 1):=by unfold eqB;rw[←zW];rfl
theorem Ak(s:ByteArray):(dO s).size≤s.size:=by
 unfold dO;split
 · rw[←cE,←cE,iO,List.length_drop];omega
 · exact Nat.le_refl _
theorem Ci(s:ByteArray)(h:s.size≤1048576):PC Tryz.prog 115 [str s] (.tup [boo (dZ s),str (dO s),boo (eC s)]):=by
 refine PC.body (c:=Tryz.f115.body.getD .skip) (fun _=>false) mixed Tryz.func115 rfl (by kernel_rfl) ?_;unfold Tryz.f115;simp only[Option.getD_some];simp only[go_sem];refine PC.use (LN s) ?_;simp only[go_sem];refine PC.use (An (dO s) (by have:=Ak s;omega)) ?_;simp only[go_sem,mE];exact .refl _
theorem T2(s:ByteArray)(h:s.size≤1048576):PC Tryz.prog 82 [str s] (boo (eC s)):=by
 refine PC.body (c:=Tryz.f82.body.getD .skip) (fun _=>false) mixed Tryz.func82 rfl (by kernel_rfl) ?_;unfold Tryz.f82;simp only[Option.getD_some];simp only[go_sem];refine PC.use (Ci s h) ?_;simp only[go_sem];exact .refl _
theorem acO(n:Int)(h0: -9223372036854775808≤n)(h1:n≤9223372036854775807):PC Tryz.prog 61 [int n] (str (zed n)):=by
 refine PC.body (c:=Tryz.f61.body.getD .skip) (fun _=>false) mixed Tryz.func61 rfl (by kernel_rfl) ?_;unfold Tryz.f61;simp only[Option.getD_some];simp only[go_sem];refine PC.use (LK n h0 h1) ?_;simp only[go_sem];exact .refl _
def sg(m:Bool)(n:Nat):Int:=if m=true then -(n:Int)else n
theorem VG(m:Bool)(n:Nat):(if(m&& !eqB (dec n) (dec 0))=true then(⟨#[45]⟩:ByteArray)++dec n else dec n)=zed (sg m n):=by
 unfold sg;by_cases hn:n=0
 · subst hn
   rw[show eqB (dec 0) (dec 0)=true from kB.2 rfl];simp only[Bool.not_true,Bool.and_false,Bool.false_eq_true,if_false];rw[←cX];split <;> rfl
 · rw[show eqB (dec n) (dec 0)=false from lS.2 fun e=>hn (nW.1 e)]
   cases m with
   | true=>
     simp only[Bool.not_false,Bool.and_true,if_true];rw[AD (by omega)];refine jJ ?_;rw[kN,iO,gI];rfl
   | false=>
     simp only[Bool.false_and,Bool.false_eq_true,if_false];rw[cX]
theorem Lu(m:Bool)(n:Nat)(hn:(dec n).size≤1048576):PC Tryz.prog 114 [.agg [boo m,str (dec n)]] (str (zed (sg m n))):=by
 refine PC.body (c:=Tryz.f114.body.getD .skip) (fun t=>t == 1) mixed Tryz.func114 rfl (by kernel_rfl) ?_;unfold Tryz.f114;simp only[Option.getD_some];simp only[go_sem];refine aL fun j hj=>?_
 have R:=aA bU j (some ⟨183,2,[[boo m,str (dec n)]]⟩);generalize aG bU j _=H1 at R ⊢;simp only[go_sem,R];have ht:=VG m n;have he:(m&& !bl (dec n) == [48])=(m&& !eqB (dec n) (dec 0)):=by rw[←mE]
 rw[he];refine aB (fun hb=>?_) (fun hb=>?_)
 · rw[if_pos hb]at ht
   simp only[go_sem,R];refine⟨by show((1+(dec n).size:Nat):Int)≤9223372036854775807;omega,?_⟩;exact cS ht
 · rw[if_neg (by rw[hb];simp)]at ht
   simp only[go_sem,R];exact cS ht
theorem Rz(m:Bool)(n:Nat):(sg m n).natAbs=n:=by unfold sg;split <;> omega
theorem DO(m:Bool)(n:Nat):PC Tryz.prog 172 [.agg [boo m,str (szN n).1],int (szN n).2] (.tup [str (szZ (sg m n)).1,int (szZ (sg m n)).2]):=by
 by_cases hn:n<cC
 · have hsz:=(gJ n).2 hn
   rw[tJ hn,show szZ (sg m n)=(zed (sg m n),0)from if_pos (by rw[Rz];exact hn)];refine PC.body (c:=Tryz.f172.body.getD .skip) (fun t=>t == 2) mixed Tryz.func172 rfl (by kernel_rfl) ?_;unfold Tryz.f172;simp only[Option.getD_some];simp only[go_sem];refine aL fun j hj=>?_
   have R:=aA bU j (some ⟨183,2,[[boo m,str (dec n)]]⟩);generalize aG bU j _=H1 at R ⊢;simp only[go_sem,R];refine aB (fun hb=>by cases hb) (fun _=>?_);simp only[go_sem,R];refine PC.use (Lu m n (by omega)) ?_;simp only[go_sem];exact .refl _
 · rw[show szN n=(emp,4)from if_neg hn,show szZ (sg m n)=(emp,4)from if_neg (by rw[Rz];exact hn)]
   refine PC.body (c:=Tryz.f172.body.getD .skip) (fun t=>t == 2) mixed Tryz.func172 rfl (by kernel_rfl) ?_;unfold Tryz.f172;simp only[Option.getD_some];simp only[go_sem];refine aL fun j hj=>?_
   simp only[go_sem];refine aB (fun hb=>?_) (fun hb=>by cases hb);simp only[go_sem];exact .refl _
def Cc(s:ByteArray):List AV:=[boo (dZ s),str (dO s)]
theorem JG(s:ByteArray):(Cc s).length=2:=(rfl)
theorem Y5(s:ByteArray):(Cc s).getD 0 .any=boo (dZ s):=(rfl)
theorem Zf(s:ByteArray):(Cc s).getD 1 .any=str (dO s):=(rfl)
theorem UZ(s:ByteArray):(Cc s).take 2=Cc s:=(rfl)
attribute [go_sem] JG Y5 Zf UZ
def B1(l:List ByteArray):Row:=⟨183,2,l.map Cc⟩
def S6(s:ByteArray):Bool:=decide ((dO s).size>4096)
def Ek(l:List ByteArray):Int:=if l.any (fun s=> !eC s)=true then 3 else if l.any S6=true then 4 else 0
def zL(l:List ByteArray):List (List AV):=if Ek l=0 then l.map Cc else[]
theorem NY{α:Type}{q:α→Bool}{l:List α}{k:Nat}{c:α}(h:l[k]?=some c)(hq:q c=true):l.any q=true:=List.any_eq_true.2 ⟨c,List.mem_of_getElem? h,hq⟩
theorem Ky{α:Type}{q:α→Bool}{l:List α}(h:∀c∈l,q c=false):l.any q=false:=by
 rw[List.any_eq_false];intro c hc;rw[h c hc];simp
theorem We(l:List ByteArray)(hl:l.length≤1048576)(hs:∀s∈l,s.size≤1048576):PC Tryz.prog 110 [.sl (l.map Go.Aw.D.fL)] (.tup [.sl (zL l),int (Ek l)]):=by
 refine PC.body (c:=Tryz.f110.body.getD .skip) (fun t=>t == 4) mixed Tryz.func110 rfl (by kernel_rfl) ?_;unfold Tryz.f110;simp only[Option.getD_some];simp only[go_sem];refine aL fun j hj=>?_
 simp only[go_sem];refine⟨fun ρ H=>∃(k j:Nat),k≤l.length∧ρ 12=.sl (l.map Go.Aw.D.fL)∧ρ 13=int l.length∧ρ 4=.os j∧ρ 14=int k∧H j=some (B1 (l.take k))∧∀s∈l.take k,eC s=true,fun ρ _=>l.length-bE (ρ 14),
   ⟨0,j,Nat.zero_le _,by simp only[go_sem],by simp only[go_sem,List.length_map],by simp only[go_sem],by simp only[go_sem];rfl,aA _ _ _,by simp⟩,?_⟩
 clear hj j;rintro ρ H ⟨k,j,hk,h12,h13,h4,h14,Rj,hz⟩;simp only[go_sem,h12,h13,h4,h14];refine aB (fun hlt=>?_) (fun hge=>?_)
 · have hlt:=ltB hlt
   obtain⟨s,hs0⟩:=aW hlt;have b1:=inB hlt;simp only[go_sem,h12,h13,h4,h14,aF hs0,b1];refine PC.use (Ci s (hs s (List.mem_of_getElem? hs0))) ?_;simp only[go_sem,h12,h13,h4,h14];refine aB (fun hb=>?_) (fun hb=>?_)
   · simp only[go_sem]
     have e:Ek l=3:=by unfold Ek;rw[if_pos (NY hs0 hb)]
     rw[show zL l=[]from if_neg (by rw[e];decide),e];exact .refl _
   · simp only[go_sem,h12,h13,h4,h14]
     refine aX Rj ⟨rfl,rfl⟩ ⟨rfl,trivial⟩ (by simp only[B1,List.length_map,List.length_take,List.length_cons,List.length_nil];omega) (fun j' hj'=>?_);simp only[go_sem,h12,h13,h4,h14,bA (show k≤4611686018427387904 by omega)];refine⟨⟨k+1,j',hlt,rfl,rfl,?_,sT hs0 (by simpa using hb) hz⟩,by simp only[aH];omega⟩;rw[aA];simp only[B1,cM hs0,List.map_append,List.map_cons,List.map_nil];rfl
 · have hge:=geB hk hge
   subst hge;rw[List.take_length]at Rj hz;have hR:l.any (fun s=> !eC s)=false:=Ky fun s hs=>by rw[hz s hs];rfl
   have hlen:((B1 l).es.length:Int)=l.length:=by simp[B1]
   simp only[go_sem,h4,Rj,hlen];refine⟨fun ρ H=>∃(k:Nat),k≤l.length∧ρ 4=.os j∧ρ 33=.os j∧ρ 34=int l.length∧ρ 35=int k∧H j=some (B1 l)∧∀s∈l.take k,S6 s=false,fun ρ _=>l.length-bE (ρ 35),
     ⟨0,Nat.zero_le _,by simp only[go_sem,h4],by simp only[go_sem],by simp only[go_sem],by simp only[go_sem];rfl,Rj,by simp⟩,?_⟩
   clear h4 Rj h12 h13 h14;rintro ρ H ⟨k,hk,h4,h33,h34,h35,Rj,hz2⟩;simp only[go_sem,h4,h33,h34,h35];refine aB (fun hlt=>?_) (fun hge=>?_)
   · have hlt:=ltB hlt
     obtain⟨s,hs0⟩:=aW hlt;have b1:=inB hlt;have hes:(B1 l).es.getD k []=Cc s:=aF hs0;have b2:0≤(k:Int)∧(k:Int)<((B1 l).es.length:Nat):=by simp only[B1,List.length_map];exact b1
     simp only[go_sem,h4,h33,h34,h35,Rj,b2,hes];have hlen2:k<(B1 l).es.length:=by simp only[B1,List.length_map];exact hlt
     refine⟨rfl,⟨hlen2,Nat.le_refl 2⟩,?_⟩;refine aL fun i hi=>?_
     simp only[go_sem,h4,h33,h34,h35];have nji:j≠i:=aN Rj hi;refine aP (aA _ _ _) (by simp[JG]) ?_;generalize hG:aG (aG _ i _) i _=HG;have Ri:HG i=some (⟨183,2,[Cc s]⟩:Row):=by rw[←hG,aA];rfl
     have Rj':HG j=some (B1 l):=by rw[←hG,aC _ _ _ _ nji,aC _ _ _ _ nji];exact Rj
     clear hG hi Rj;simp only[go_sem,h4,h33,h34,h35,Ri];have hd:decide (((dO s).size:Int)>4096)=S6 s:=by unfold S6;rw[decide_eq_decide];omega
     rw[hd];refine aB (fun hb=>?_) (fun hb=>?_)
     · simp only[go_sem]
       have e:Ek l=4:=by unfold Ek;rw[if_neg (by rw[hR];simp),if_pos (NY hs0 hb)]
       rw[show zL l=[]from if_neg (by rw[e];decide),e];exact .refl _
     · simp only[go_sem,h4,h33,h34,h35,bA (show k≤4611686018427387904 by omega)]
       exact⟨⟨k+1,hlt,rfl,Rj',sT hs0 hb hz2⟩,by simp only[aH];omega⟩
   · have hge:=geB hk hge
     subst hge;rw[List.take_length]at hz2;simp only[go_sem,h4];have e:Ek l=0:=by unfold Ek;rw[if_neg (by rw[hR];simp),if_neg (by rw[Ky hz2];simp)]
     rw[show zL l=l.map Cc from if_pos e,e];exact .tup _ _ (.cons _ _ _ _ (.row _ _ _ Rj (ConvE.refl _)) (ConvL.refl _))
end Go.Proofs.YtdlijlecpopadaaGreatDoor.Nu
end

section
set_option linter.unusedSimpArgs false
set_option linter.unusedVariables false
namespace Go.Proofs.YtdlijlecpopadaaGreatDoor.Nu
open Go.Aw Go.Aw.D Go.Proofs Ty Go.Nu
set_option maxRecDepth 100000
theorem Bi:∀{l r:List UInt8},l.all isD=true→r.all isD=true→l.length=r.length→Lib.compareBytes l r=gD (gA l) (gA r)
 | [],[],_,_,_=>by rw[nF rfl];rfl
 | [],_::_,_,_,h=>by simp at h
 | _::_,[],_,_,h=>by simp at h
 | a::l,b::r,hl,hr,h=>by
   simp only[List.all_cons,Bool.and_eq_true]at hl hr;simp only[List.length_cons,Nat.add_right_cancel_iff]at h;have ih:=Bi hl.2 hr.2 h;have ea:gA (a::l)=(a.toNat-48)*10^l.length+gA l:=by
     have:=rJ [a] l;simpa[gA]using this
   have eb:gA (b::r)=(b.toNat-48)*10^r.length+gA r:=by
     have:=rJ [b] r;simpa[gA]using this
   have h1:=Cu hl.2;have h2:=Cu hr.2;have da:=kT.1 hl.1;have db:=kT.1 hr.1;rw[Lib.compareBytes,ea,eb,←h]at *;have lt1:a<b↔a.toNat<b.toNat:=UInt8.lt_iff_toNat_lt;have lt2:b<a↔b.toNat<a.toNat:=UInt8.lt_iff_toNat_lt;split
   · rename_i hab
     rw[lt1]at hab;have:(a.toNat-48+1)*10^l.length≤(b.toNat-48)*10^l.length:=Nat.mul_le_mul_right _ (by omega);rw[Nat.add_mul]at this;rw[iD (by omega)]
   · split
     · rename_i hab
       rw[lt2]at hab;have:(b.toNat-48+1)*10^l.length≤(a.toNat-48)*10^l.length:=Nat.mul_le_mul_right _ (by omega);rw[Nat.add_mul]at this;rw[iF (by omega)]
     · rename_i n1 n2
       rw[lt1]at n1;rw[lt2]at n2;have:a.toNat=b.toNat:=by omega
       rw[ih,this];generalize (b.toNat-48)*10^l.length=p;unfold gD;have c1:(((p+gA l:Nat):Int)<((p+gA r:Nat):Int))↔((gA l:Nat):Int)<((gA r:Nat):Int):=by omega
       have c2:(((p+gA r:Nat):Int)<((p+gA l:Nat):Int))↔((gA r:Nat):Int)<((gA l:Nat):Int):=by omega
       simp only[c1,c2]
theorem CZ(m n:Nat):PC Tryz.prog 116 [str (dec m),str (dec n)] (int (gD m n)):=by
 have hm:=hU m;have hn:=hU n;have hmono:∀{p q:Nat},(Lib.decDigits p).length<(Lib.decDigits q).length→p<q:=fun {p q} h=>by
   have h1:=(jH (n:=p) (k:=(Lib.decDigits p).length) (gN p)).1 (Nat.le_refl _);rcases Nat.lt_or_ge p q with h2|h2
   · exact h2
   · have:=(jH (n:=q) (k:=(Lib.decDigits p).length) (gN p)).2 (by omega)
     omega
 refine PC.body (c:=Tryz.f116.body.getD .skip) (fun _=>false) mixed Tryz.func116 rfl (by kernel_rfl) ?_;unfold Tryz.f116;simp only[Option.getD_some];simp only[go_sem];refine aB (fun h=>?_) (fun h=>?_)
 · have h:(dec m).size≠(dec n).size:=neN h
   simp only[go_sem];refine aB (fun h2=>?_) (fun h2=>?_)
   · have h2:=ltB h2
     simp only[go_sem];have:=hmono (p:=m) (q:=n) (by omega);exact cI (by rw[iD (by omega)])
   · have h2:¬(dec m).size<(dec n).size:=by have:=of_decide_eq_false h2;omega
     simp only[go_sem];have:=hmono (p:=n) (q:=m) (by omega);exact cI (by rw[iF (by omega)])
 · have h:(dec m).size=(dec n).size:=eqN h
   simp only[go_sem];refine PC.use (ZR (dec m) (dec n)) ?_;simp only[go_sem];refine cI ?_;rw[gI,gI,Bi (qU m) (qU n) (by omega),nN,nN]
theorem N5(a b:ByteArray)(ha:dB a=true)(hb:dB b=true):PC Tryz.prog 116 [str a,str b] (int (gD (dR a) (dR b))):=by
 have:=CZ (dR a) (dR b)
 rwa [iP ha,iP hb]at this
theorem AY{s:ByteArray}(h:eC s=true):dB (dO s)=true:=by
 unfold eC at h;simp only[Bool.and_eq_true]at h;exact h.1
theorem Me(a b:ByteArray)(ha:a.size≤1048576)(hb:b.size≤1048576):PC Tryz.prog 58 [str a,str b] (int (La a b)):=by
 refine PC.body (c:=Tryz.f58.body.getD .skip) (fun _=>false) mixed Tryz.func58 rfl (by kernel_rfl) ?_;unfold Tryz.f58;simp only[Option.getD_some];simp only[go_sem];refine PC.use (Ci a ha) ?_;simp only[go_sem];refine PC.use (Ci b hb) ?_;simp only[go_sem];refine aB (fun h=>?_) (fun h=>?_)
 · simp only[go_sem]
   refine cI ?_;unfold La;rw[if_neg];rintro⟨h1,h2⟩;rw[h1,h2]at h;cases h
 have hr:eC a=true∧eC b=true:=by simpa using h
 have ra:=AY hr.1;have rb:=AY hr.2;have hpos:∀{s:ByteArray},eC s=true→dZ s=true→0<dR (dO s):=fun {s} h1 h2=>by
   have h3:=h1;unfold eC at h3;simp only[h2,Bool.true_and,Bool.and_eq_true,Bool.not_eq_true',lS]at h3;rcases Nat.eq_zero_or_pos (dR (dO s))with h0|h0
   · have:=iP h3.1
     rw[h0]at this;exact absurd this.symm h3.2
   · exact h0
 have hv:La a b=gD (fF a) (fF b):=if_pos hr;rw[hv];unfold fF;simp only[go_sem];refine aB (fun h2=>?_) (fun h2=>?_)
 · have h2:dZ a=true∧dZ b=true:=by simpa using h2
   simp only[go_sem];refine PC.use (N5 _ _ rb ra) ?_;simp only[go_sem];refine cI ?_;rw[if_pos h2.1,if_pos h2.2];unfold gD;have c1:(((dR (dO b):Nat):Int)<((dR (dO a):Nat):Int))↔(-((dR (dO a):Nat):Int)< -((dR (dO b):Nat):Int)):=by omega
   have c2:(((dR (dO a):Nat):Int)<((dR (dO b):Nat):Int))↔(-((dR (dO b):Nat):Int)< -((dR (dO a):Nat):Int)):=by omega
   simp only[c1,c2]
 · simp only[go_sem]
   refine aB (fun h3=>?_) (fun h3=>?_)
   · have h4:dZ b=false:=by rw[h3]at h2;simpa using h2
     have:=hpos hr.1 h3;simp only[go_sem];refine cI ?_;rw[if_pos h3,if_neg (by rw[h4];simp),iD (by omega)]
   · simp only[go_sem]
     refine aB (fun h4=>?_) (fun h4=>?_)
     · have:=hpos hr.2 h4
       simp only[go_sem];refine cI ?_;rw[if_neg (by rw[h3];simp),if_pos h4,iF (by omega)]
     · simp only[go_sem]
       refine PC.use (N5 _ _ ra rb) ?_;simp only[go_sem];refine cI ?_;rw[if_neg (by rw[h3];simp),if_neg (by rw[h4];simp)]
def jS(m:Bool)(n:Nat):List AV:=[boo m,str (dec n)]
theorem Bb(m:Bool)(n:Nat):(jS m n).length=2:=(rfl)
theorem WL(m:Bool)(n:Nat):(jS m n).getD 0 .any=boo m:=(rfl)
theorem Wd(m:Bool)(n:Nat):(jS m n).getD 1 .any=str (dec n):=(rfl)
theorem Pv(m:Bool)(n:Nat):(jS m n).take 2=jS m n:=(rfl)
attribute [go_sem] Bb WL Wd Pv
theorem JS{m n:Nat}(hm:m<cC)(hn:n<cC):LF (dec m) (dec n)=szN (m+n):=by unfold LF;rw[if_pos (tC hm hn),bO,bO]
theorem Lm{m n:Nat}(hm:m<cC)(hn:n<cC)(h:n≤m):MD (dec m) (dec n)=szN (m-n):=by unfold MD;rw[if_pos (tC hm hn),bO,bO,if_neg (by omega)]
theorem cV{m:Nat}(hm:m<cC):(dec m).size≤1048576:=by have:=(gJ m).2 hm;omega
theorem Yq(a b:Bool)(m n:Nat)(hm:m<cC)(hn:n<cC):PC Tryz.prog 119 [.agg (jS a m),.agg (jS b n)] (.tup [str (szZ (sg a m+sg b n)).1,int (szZ (sg a m+sg b n)).2]):=by
 refine PC.body (c:=Tryz.f119.body.getD .skip) (fun t=>t == 2||t == 3) mixed Tryz.func119 rfl (by kernel_rfl) ?_;unfold Tryz.f119;simp only[Option.getD_some];simp only[go_sem];refine aL fun i hi=>?_
 simp only[go_sem];refine aL fun j hj=>?_
 have R2:=aA bU i (some ⟨183,2,[jS a m]⟩);have nij:i≠j:=aN R2 hj;have R3:=aA (aG bU i (some ⟨183,2,[jS a m]⟩)) j (some ⟨183,2,[jS b n]⟩);have R2':(aG (aG bU i (some ⟨183,2,[jS a m]⟩)) j (some ⟨183,2,[jS b n]⟩)) i=some ⟨183,2,[jS a m]⟩:=by rw[aC _ _ _ _ nij];exact R2
 generalize aG (aG bU i _) j _=H1 at *;clear R2;simp only[go_sem,R2',R3];refine aB (fun h=>?_) (fun h=>?_)
 · have hab:a=b:=by simpa using h
   subst hab;simp only[go_sem,R2',R3];refine PC.use (UW (dec m) (dec n) (cV hm) (cV hn)) ?_;rw[JS hm hn];simp only[go_sem,R2',R3];refine PC.use (DO a (m+n)) ?_;simp only[go_sem];have e:sg a (m+n)=sg a m+sg a n:=by unfold sg;split <;> omega
   rw[e];exact .refl _
 have hab:b= !a:=by cases a <;> cases b <;> simp_all
 subst hab;simp only[go_sem,R2',R3];refine PC.use (CZ m n) ?_;simp only[go_sem,R2',R3];refine aU (fun ρ' H'=>∃(a' b':Bool) (p q:Nat),p<cC∧q<cC∧q≤p∧sg a' (p-q)=sg a m+sg (!a) n∧ρ' 2=.op i 0 0∧ρ' 3=.op j 0 0∧H' i=some (⟨183,2,[jS a' p]⟩:Row)∧H' j=some (⟨183,2,[jS b' q]⟩:Row)) ?_ fun K hK=>aB (fun hb=>?_) (fun hb=>?_)
 rotate_left
 · have hlt : m < n := by
     rcases Nat.lt_or_ge m n with h|h
     · exact h
     · exfalso
       have hb:=of_decide_eq_true hb;unfold gD at hb;rw[if_neg (by omega)]at hb;split at hb <;> omega
   simp only[go_sem,R2',R3];refine aP R2' (by simp[Bb]) ?_;generalize hP:aG H1 i _=HP;have R2:HP i=some (⟨183,2,[jS (!a) n]⟩:Row):=by rw[←hP,aA];rfl
   have R3':HP j=some (⟨183,2,[jS (!a) n]⟩:Row):=by rw[←hP,aC _ _ _ _ (Ne.symm nij)];exact R3
   clear hP;simp only[go_sem,R2,R3'];refine aP R3' (by simp[Bb]) ?_;generalize hP:aG HP j _=HQ;have S3:HQ j=some (⟨183,2,[jS a m]⟩:Row):=by rw[←hP,aA];rfl
   have S2:HQ i=some (⟨183,2,[jS (!a) n]⟩:Row):=by rw[←hP,aC _ _ _ _ nij];exact R2
   clear hP;simp only[go_sem];refine hK _ _ ⟨!a,a,n,m,hn,hm,by omega,?_,by simp only[go_sem],by simp only[go_sem],S2,S3⟩;unfold sg;cases a <;> simp <;> omega
 · have hge : n ≤ m := by
     rcases Nat.lt_or_ge m n with h|h
     · exact absurd (by rw[iD (by omega)];decide) (of_decide_eq_false hb)
     · exact h
   simp only[go_sem];refine hK _ _ ⟨a,!a,m,n,hm,hn,hge,?_,by simp only[go_sem],by simp only[go_sem],R2',R3⟩;unfold sg;cases a <;> simp <;> omega
 clear R2' R3;rintro ρ H ⟨a',b',p,q,hp,hq,hqp,hv,h2,h3,R2,R3⟩;simp only[go_sem,h2,h3,R2,R3];refine PC.use (Tb (dec p) (dec q) (cV hp) (cV hq)) ?_;rw[Lm hp hq hqp];simp only[go_sem,h2,h3,R2,R3];refine PC.use (DO a' (p-q)) ?_;simp only[go_sem];rw[hv];exact .refl _
theorem I7(a b:ByteArray):Ek [a,b]=iQ a b:=by
 unfold Ek iQ S6;simp only[List.any_cons,List.any_nil,Bool.or_false]
theorem Q8(n:Int):Cc (zed n)=jS (decide (n<0)) n.natAbs:=by
 unfold Cc jS;rw[nQ,hY]
theorem AR(n:Int):sg (decide (n<0)) n.natAbs=n:=by
 unfold sg;by_cases h:n<0
 · simp[h];omega
 · simp[h];omega
theorem HO{m n:Int}(h:iQ (zed m) (zed n)=0):zL [zed m,zed n]=[jS (decide (m<0)) m.natAbs,jS (decide (n<0)) n.natAbs]:=by
 unfold zL;rw[I7,if_pos h];simp only[List.map_cons,List.map_nil,Q8]
theorem Ap(a b:ByteArray)(ha:a.size≤1048576)(hb:b.size≤1048576):PC Tryz.prog 110 [.sl [[str a],[str b]]] (.tup [.sl (zL [a,b]),int (iQ a b)]):=by
 have:=We [a,b] (by simp) (by simp[ha,hb])
 rwa [I7]at this
theorem Zd(a b:ByteArray)(ha:a.size≤1048576)(hb:b.size≤1048576):PC Tryz.prog 60 [str a,str b] (.tup [str (Er a b).1,int (Er a b).2]):=by
 refine PC.body (c:=Tryz.f60.body.getD .skip) (fun _=>false) mixed Tryz.func60 rfl (by kernel_rfl) ?_;unfold Tryz.f60;simp only[Option.getD_some];simp only[go_sem];refine PC.use (Ap a b ha hb) ?_;simp only[go_sem];refine aB (fun h=>?_) (fun h=>?_)
 · have h:iQ a b≠0:=by simpa using h
   simp only[go_sem];rw[show Er a b=(emp,iQ a b)from if_neg h];exact .refl _
 have h:iQ a b=0:=by simpa using h
 have e:Er a b=szZ (fF a+fF b):=if_pos h;rw[e];obtain⟨m,n,rfl,rfl,hm,hn⟩:=mQ h;rw[bV,bV,HO h];simp only[go_sem];refine fQ (by rfl) (by kernel_rfl) ?_;simp only[go_sem,List.length_cons,List.length_nil]
 repeat (refine⟨by first|decide|omega,?_⟩)
 refine⟨_,(Yq _ _ _ _ hm hn).q rfl,?_⟩;simp only[go_sem];rw[AR,AR];exact .refl _
theorem YO(a b:ByteArray)(ha:a.size≤1048576)(hb:b.size≤1048576):PC Tryz.prog 67 [str a,str b] (.tup [str (Pa a b).1,int (Pa a b).2]):=by
 refine PC.body (c:=Tryz.f67.body.getD .skip) (fun _=>false) mixed Tryz.func67 rfl (by kernel_rfl) ?_;unfold Tryz.f67;simp only[Option.getD_some];simp only[go_sem];refine PC.use (Ap a b ha hb) ?_;simp only[go_sem];refine aB (fun h=>?_) (fun h=>?_)
 · have h:iQ a b≠0:=by simpa using h
   simp only[go_sem];rw[show Pa a b=(emp,iQ a b)from if_neg h];exact .refl _
 have h:iQ a b=0:=by simpa using h
 have e:Pa a b=szZ (fF a-fF b):=if_pos h;rw[e];obtain⟨m,n,rfl,rfl,hm,hn⟩:=mQ h;rw[bV,bV,HO h];simp only[go_sem];refine fQ (by rfl) (by kernel_rfl) ?_;simp only[go_sem,List.length_cons,List.length_nil]
 repeat (refine⟨by first|decide|omega,?_⟩)
 have hneg:sg (!decide (n<0)) n.natAbs= -n:=by
   unfold sg;by_cases h:n<0
   · simp[h];omega
   · simp[h];omega
 refine⟨_,(Yq _ (!decide (n<0)) _ _ hm hn).q rfl,?_⟩;simp only[go_sem];rw[AR,hneg,Int.sub_eq_add_neg];exact .refl _
theorem Te{m n:Nat}(hm:m<cC)(hn:n<cC):LP (dec m) (dec n)=szN (m*n):=by unfold LP;rw[if_pos (tC hm hn),bO,bO]
theorem YF(a b:ByteArray)(ha:a.size≤1048576)(hb:b.size≤1048576):PC Tryz.prog 171 [str a,str b] (.tup [str (sC a b).1,int (sC a b).2]):=by
 refine PC.body (c:=Tryz.f171.body.getD .skip) (fun _=>false) mixed Tryz.func171 rfl (by kernel_rfl) ?_;unfold Tryz.f171;simp only[Option.getD_some];simp only[go_sem];refine PC.use (Ap a b ha hb) ?_;simp only[go_sem];refine aB (fun h=>?_) (fun h=>?_)
 · have h:iQ a b≠0:=by simpa using h
   simp only[go_sem];rw[show sC a b=(emp,iQ a b)from if_neg h];exact .refl _
 have h:iQ a b=0:=by simpa using h
 have e:sC a b=szZ (fF a*fF b):=if_pos h;rw[e];obtain⟨m,n,rfl,rfl,hm,hn⟩:=mQ h;rw[bV,bV,HO h];simp only[go_sem];refine fQ (by rfl) (by kernel_rfl) ?_;simp only[go_sem,List.length_cons,List.length_nil]
 repeat (refine⟨by first|decide|omega,?_⟩)
 refine⟨_,(ZI (dec m.natAbs) (dec n.natAbs) (cV hm) (cV hn)).q rfl,?_⟩;rw[Te hm hn];simp only[go_sem];refine fQ (by rfl) (by kernel_rfl) ?_;simp only[go_sem,List.length_cons,List.length_nil]
 repeat (refine⟨by first|decide|omega,?_⟩)
 refine⟨_,(DO _ (m.natAbs*n.natAbs)).q rfl,?_⟩;simp only[go_sem];have hs:sg (!(decide (m<0) == decide (n<0))) (m.natAbs*n.natAbs)=m*n:=by
   unfold sg;rw[Int.natCast_mul];by_cases h1:m<0 <;> by_cases h2:n<0
   · simp only[h1,h2,decide_true,beq_self_eq_true,Bool.not_true,Bool.false_eq_true,if_false]
     rw[Int.ofNat_natAbs_of_nonpos (by omega),Int.ofNat_natAbs_of_nonpos (by omega),Int.neg_mul_neg]
   · simp only[h1,h2,decide_true,decide_false]
     rw[if_pos (show(!(true == false))=true from rfl),Int.ofNat_natAbs_of_nonpos (by omega),Int.natAbs_of_nonneg (by omega),Int.neg_mul,Int.neg_neg]
   · simp only[h1,h2,decide_true,decide_false]
     rw[if_pos (show(!(false == true))=true from rfl),Int.ofNat_natAbs_of_nonpos (a:=n) (by omega),Int.natAbs_of_nonneg (by omega),Int.mul_neg,Int.neg_neg]
   · simp only[h1,h2,decide_false,beq_self_eq_true,Bool.not_true,Bool.false_eq_true,if_false]
     rw[Int.natAbs_of_nonneg (by omega),Int.natAbs_of_nonneg (by omega)]
 rw[hs];exact .refl _
theorem yT{P : Program}{C : lB}{PC : FuncId → List AV → aE → AV → Prop}{mt : Nat → Bool}{ops : Array Oper}{K : Env → aE → Prop}{m : Nat}{ρ : Env}{H : aE}(J : Env → aE → Prop)(h1 : ∀ ρ H, J ρ H → K ρ H)
 (h2:∀K':Env→aE→Prop,(∀ρ H,J ρ H→K' ρ H)→rC P C PC mt ops K' m ρ H):rC P C PC mt ops K m ρ H:=h2 K h1
abbrev Qb(A:List AV):Row:=⟨183,2,[A]⟩
abbrev zN:Row:=Qb [.v (.bool false),.v (.string ByteArray.empty)]
theorem AE{A:List AV}(h:A.length=2):(⟨183,2,[List.take 2 A++List.drop (List.take 2 A).length [AV.v (.bool false),AV.v (.string ByteArray.empty)]]⟩:Row)=Qb A:=by
 rw[List.take_of_length_le (by omega),h];simp
theorem Bw{m n : Int}(hn : n ≠ 0)(hs : decide (m < 0) ≠ decide (n < 0))(hr : m.natAbs % n.natAbs ≠ 0):
   m.fdiv n= -((m.natAbs/n.natAbs+1:Nat):Int)∧m.fmod n=sg (decide (n<0)) (n.natAbs-m.natAbs%n.natAbs):=by
 have e:=Nat.mod_add_div m.natAbs n.natAbs;have hlt:=Nat.mod_lt m.natAbs (show 0<n.natAbs by omega);generalize m.natAbs/n.natAbs=q at *;generalize m.natAbs%n.natAbs=r at *;have e':(r:Int)+(n.natAbs:Int)*(q:Int)=(m.natAbs:Int):=by rw[←Int.natCast_mul,←Int.natCast_add,e]
 unfold sg;rcases Int.lt_or_gt_of_ne hn with h|h
 · have hm:¬m<0:=fun h2=>hs (by simp[h,h2])
   rw[Int.ofNat_natAbs_of_nonpos (a:=n) (by omega),Int.natAbs_of_nonneg (a:=m) (by omega)]at e';refine(Int.fdiv_fmod_unique' h).2 ⟨?_,?_,?_⟩
   · rw[if_pos (by simpa using h)]
     have:(n* -((q+1:Nat):Int))= -n*q-n:=by grind
     rw[this];omega
   · rw[if_pos (by simpa using h)];omega
   · rw[if_pos (by simpa using h)];omega
 · have hm : m < 0 := by
     rcases Int.lt_or_le m 0 with h2|h2
     · exact h2
     · exact absurd (by simp;omega) hs
   rw[Int.natAbs_of_nonneg (a:=n) (by omega),Int.ofNat_natAbs_of_nonpos (a:=m) (by omega)]at e';refine(Int.fdiv_fmod_unique h).2 ⟨?_,?_,?_⟩
   · rw[if_neg (by simp;omega)]
     have:(n* -((q+1:Nat):Int))= -(n*q)-n:=by grind
     rw[this];omega
   · rw[if_neg (by simp;omega)];omega
   · rw[if_neg (by simp;omega)];omega
theorem E9{m n : Int}(hn : n ≠ 0)(h0 : decide (m < 0) = decide (n < 0) ∨ m.natAbs % n.natAbs = 0):
   m.fdiv n=sg (!(decide (m<0) == decide (n<0))) (m.natAbs/n.natAbs)∧m.fmod n=sg (decide (n<0)) (m.natAbs%n.natAbs):=by
 have e:=Nat.mod_add_div m.natAbs n.natAbs;have hlt:=Nat.mod_lt m.natAbs (show 0<n.natAbs by omega);generalize m.natAbs/n.natAbs=q at *;generalize m.natAbs%n.natAbs=r at *;have e':(r:Int)+(n.natAbs:Int)*(q:Int)=(m.natAbs:Int):=by rw[←Int.natCast_mul,←Int.natCast_add,e]
 unfold sg;rcases Int.lt_or_gt_of_ne hn with h|h
 · rw[Int.ofNat_natAbs_of_nonpos (a:=n) (by omega)]at e'
   refine(Int.fdiv_fmod_unique' h).2 ?_;by_cases hm:m<0
   · rw[Int.ofNat_natAbs_of_nonpos (a:=m) (by omega)]at e'
     simp only[h,hm,decide_true,beq_self_eq_true,Bool.not_true,Bool.false_eq_true,if_false,if_true];have:n*(q:Int)= -(-n*q):=by grind
     exact⟨by rw[this];omega,by omega,by omega⟩
   · rw[Int.natAbs_of_nonneg (a:=m) (by omega)]at e'
     have hr:r=0:=by
       rcases h0 with h0|h0
       · simp[h,hm]at h0
       · exact h0
     simp only[h,hm,decide_true,decide_false,show(!(false == true))=true from rfl,if_true];have:n* -(q:Int)= -n*q:=by grind
     exact⟨by rw[this];omega,by omega,by omega⟩
 · rw[Int.natAbs_of_nonneg (a:=n) (by omega)]at e'
   refine(Int.fdiv_fmod_unique h).2 ?_;have hn0:¬n<0:=by omega
   by_cases hm:m<0
   · rw[Int.ofNat_natAbs_of_nonpos (a:=m) (by omega)]at e'
     have hr:r=0:=by
       rcases h0 with h0|h0
       · simp[hn0,hm]at h0
       · exact h0
     simp only[hn0,hm,decide_true,decide_false,show(!(true == false))=true from rfl,if_true,Bool.false_eq_true,if_false];have:n* -(q:Int)= -(n*q):=by grind
     exact⟨by rw[this];omega,by omega,by omega⟩
   · rw[Int.natAbs_of_nonneg (a:=m) (by omega)]at e'
     simp only[hn0,hm,decide_false,beq_self_eq_true,Bool.not_true,Bool.false_eq_true,if_false];exact⟨by omega,by omega,by omega⟩
theorem JZ{m n:Nat}(hm:m<cC)(hn:n<cC)(h:n≠0):AC (dec m) (dec n)=(dec (m/n),dec (m%n),0):=by unfold AC;rw[if_pos (tC hm hn),bO,bO,if_neg h]
theorem HT(a b:ByteArray)(ha:a.size≤1048576)(hb:b.size≤1048576):PC Tryz.prog 57 [str a,str b] (.tup [str (qR a b).1,str (qR a b).2.1,int (qR a b).2.2]):=by
 refine PC.body (c:=Tryz.f57.body.getD .skip) (fun _=>false) mixed Tryz.func57 rfl (by kernel_rfl) ?_;unfold Tryz.f57;simp only[Option.getD_some];simp only[go_sem];refine PC.use (Ap a b ha hb) ?_;simp only[go_sem];refine aB (fun h=>?_) (fun h=>?_)
 · have h:iQ a b≠0:=by simpa using h
   simp only[go_sem];rw[show qR a b=(emp,emp,iQ a b)from if_neg h];exact .refl _
 have h:iQ a b=0:=by simpa using h
 obtain⟨m,n,rfl,rfl,hm,hn⟩:=mQ h;have e:qR (zed m) (zed n)=if n=0 then(emp,emp,10)else(zed (m.fdiv n),zed (m.fmod n),0):=by unfold qR;rw[if_pos h,bV,bV]
 rw[e,HO h];simp only[go_sem];obtain⟨A,hA⟩:∃A,jS (decide (m<0)) m.natAbs=A:=⟨_,rfl⟩;obtain⟨B,hB⟩:∃B,jS (decide (n<0)) n.natAbs=B:=⟨_,rfl⟩;have hAl:A.length=2:=by rw[←hA];rfl
 have hBl:B.length=2:=by rw[←hB];rfl
 refine yT (fun ρ' H'=>∃i j,ρ' 9=.op i 0 0∧ρ' 10=.op j 0 0∧H' i=some (Qb A)∧H' j=some (Qb B)) ?_ fun K hK=>?_
 rotate_left
 · refine zT [] (.q 0 (.q 1 (.q 2 (.q 3 (.q 4 (.q 5 (.a2 6 (.a1 7 (.a1 8 (.a1 9 .nil))) 7 (.a1 6 (.a1 8 (.a1 9 .nil)))))))))) (by simp) (by kernel_rfl) fun Hp Hr _ hq _ _=>?_
   simp only[go_sem,List.length_cons,List.length_nil,hA,hB]
   repeat (refine⟨by first|decide|omega,?_⟩)
   refine lA ?_ ?_
   · simp only[go_sem]
     refine aL fun i hi=>?_
     simp only[go_sem];refine aL fun j hj=>?_
     have R:=aA Hr i (some (zN));have nij:=aN R hj;have Ri:=jV (r':=zN) R hj;have Rj:=aA (aG Hr i (some (zN))) j (some (zN));simp only[go_sem];refine aP (r:=zN) Ri (by simp[hAl]) ?_;simp only[go_sem];refine aP (r:=zN) (by rw[aC _ _ _ _ nij.symm];exact Rj) (by simp[hBl]) ?_;simp only[go_sem];refine kL fun _ Hm _ hm=>hK _ _ ⟨i,j,by simp only[go_sem],by simp only[go_sem],?_,?_⟩
     · rw[hm i (by simp),aC _ _ _ _ nij,aA];exact congrArg some (AE hAl)
     · rw[hm j (by simp),aA];exact congrArg some (AE hBl)
   · simp only[go_sem]
     refine aL fun j hj=>?_
     simp only[go_sem];refine aL fun i hi=>?_
     have R:=aA Hr j (some (zN));have nij:=(aN R hi).symm;have Rj:=jV (r':=zN) R hi;have Ri:=aA (aG Hr j (some (zN))) i (some (zN));simp only[go_sem];refine aP (r:=zN) Ri (by simp[hAl]) ?_;simp only[go_sem];refine aP (r:=zN) (by rw[aC _ _ _ _ nij.symm];exact Rj) (by simp[hBl]) ?_;simp only[go_sem];refine kL fun _ Hm _ hm=>hK _ _ ⟨i,j,by simp only[go_sem],by simp only[go_sem],?_,?_⟩
     · rw[hm i (by simp),aC _ _ _ _ nij,aA];exact congrArg some (AE hAl)
     · rw[hm j (by simp),aA];exact congrArg some (AE hBl)
 rintro ρ H ⟨i,j,h9,h10,Ri,Rj⟩;subst hA hB;simp only[go_sem,h9,h10,Ri,Rj,mE];refine aB (fun hb0=>?_) (fun hb0=>?_)
 · have h0 : n = 0 := by
     have:=nW.1 (kB.1 hb0);omega
   simp only[go_sem];rw[if_pos h0];exact .refl _
 have h0:n≠0:=fun e=>by
   subst e;exact lS.1 hb0 rfl
 have hn0:n.natAbs≠0:=by omega
 rw[if_neg h0];simp only[go_sem,h9,h10,Ri,Rj];refine PC.use (Y9 (dec m.natAbs) (dec n.natAbs) (cV hm) (cV hn)) ?_;rw[JZ hm hn hn0];simp only[go_sem,h9,h10,Ri,Rj];refine aB (fun hb=>by cases hb) (fun _=>?_);simp only[go_sem,h9,h10,Ri,Rj,mE];have hqr:=Nat.mod_add_div m.natAbs n.natAbs;have hrlt:=Nat.mod_lt m.natAbs (show 0<n.natAbs by omega);refine aU (fun ρ' H'=>∃q r:Nat,ρ' 9=.op i 0 0∧ρ' 10=.op j 0 0∧H' i=some (Qb (jS (decide (m<0)) m.natAbs))∧H' j=some (Qb (jS (decide (n<0)) n.natAbs))∧ρ' 11=str (dec q)∧ρ' 12=str (dec r)∧q<cC∧r<cC∧sg (!(decide (m<0) == decide (n<0))) q=m.fdiv n∧sg (decide (n<0)) r=m.fmod n) ?_ fun K hK=>aB (fun hb=>?_) (fun hb=>?_)
 rotate_left
 · have hb : decide (m < 0) ≠ decide (n < 0) ∧ m.natAbs % n.natAbs ≠ 0 := by
     simp only[Bool.and_eq_true,Bool.not_eq_true',beq_eq_false_iff_ne,ne_eq,lS]at hb;exact⟨hb.1,fun e=>hb.2 (by rw[e])⟩
   obtain⟨f1,f2⟩:=Bw h0 hb.1 hb.2;have hq1:m.natAbs/n.natAbs+1<cC:=by
     have h2:2≤n.natAbs:=by omega
     have h3:2*(m.natAbs/n.natAbs)≤n.natAbs*(m.natAbs/n.natAbs):=Nat.mul_le_mul_right _ h2;omega
   have hq2:m.natAbs/n.natAbs<cC:=by omega
   have h1m:(1:Nat)<cC:=Nat.lt_of_le_of_lt (Nat.le_add_left 1 _) hq1;have hrm:m.natAbs%n.natAbs<cC:=by omega
   generalize hQ:m.natAbs/n.natAbs=q at *;generalize hR:m.natAbs%n.natAbs=r at *;simp only[go_sem,h9,h10];rw[zW];refine PC.use (UW (dec q) (dec 1) (cV hq2) (cV h1m)) ?_;rw[JS hq2 h1m,tJ hq1];simp only[go_sem,h9,h10,Ri,Rj];refine aB (fun hb=>by cases hb) (fun _=>?_);simp only[go_sem,h9,h10,Ri,Rj];refine PC.use (Tb (dec n.natAbs) (dec r) (cV hn) (cV hrm)) ?_;rw[Lm hn hrm (by omega),tJ (show n.natAbs-r<cC by omega)];simp only[go_sem,h9,h10,Ri,Rj];refine aB (fun hb=>by cases hb) (fun _=>?_);simp only[go_sem,h9,h10];refine hK _ _ ⟨q+1,n.natAbs-r,by simp only[go_sem,h9],by simp only[go_sem,h10],Ri,Rj,by simp only[go_sem],by simp only[go_sem],hq1,by omega,?_,f2.symm⟩;rw[f1];unfold sg;rw[if_pos (by simpa using hb.1)]
 · have hb : decide (m < 0) = decide (n < 0) ∨ m.natAbs % n.natAbs = 0 := by
     by_cases h1:decide (m<0)=decide (n<0)
     · exact .inl h1
     · refine .inr ?_
       have h2:(!(decide (m<0) == decide (n<0)))=true:=by simpa using h1
       rw[h2,Bool.true_and,Bool.not_eq_false']at hb;exact nW.1 (kB.1 hb)
   obtain⟨f1,f2⟩:=E9 h0 hb;have hq2:m.natAbs/n.natAbs<cC:=Nat.lt_of_le_of_lt (Nat.div_le_self _ _) hm;simp only[go_sem,h9,h10];exact hK _ _ ⟨_,_,by simp only[go_sem,h9],by simp only[go_sem,h10],Ri,Rj,by simp only[go_sem],by simp only[go_sem],hq2,by omega,f1.symm,f2.symm⟩
 clear h9 h10 Ri Rj;rintro ρ H ⟨q,r,h9,h10,Ri,Rj,h11,h12,hq,hr,f1,f2⟩;simp only[go_sem];refine fQ (by rfl) (by kernel_rfl) ?_;simp only[go_sem,h9,h10,h11,h12,Ri,Rj];refine⟨_,(Lu _ q (cV hq)).q rfl,?_⟩;simp only[go_sem,h9,h10,h11,h12,Ri,Rj];refine⟨_,(Lu _ r (cV hr)).q rfl,?_⟩;simp only[go_sem,f1,f2];exact .refl _
end Go.Proofs.YtdlijlecpopadaaGreatDoor.Nu
end
