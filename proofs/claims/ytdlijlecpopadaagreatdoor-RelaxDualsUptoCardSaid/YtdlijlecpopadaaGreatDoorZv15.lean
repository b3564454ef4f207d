/- Texts joined by a program: NuL, NuM. -/
import Derived.Test.YtdlijlecpopadaaGreatDoorZv14
set_option linter.unusedSimpArgs false
set_option linter.unusedVariables false
set_option maxRecDepth 100000
section
namespace Go.Proofs.YtdlijlecpopadaaGreatDoor.Nu
open Go.Aw Go.Aw.D Go.Proofs Ty Go.Nu
open Go.RowKit (Below)
theorem Ii(s:ByteArray):Lib.hasPrefix (bl s) [45]=dZ s:=by
 unfold Lib.hasPrefix dZ;cases bl s with
 | nil=>rfl
 | cons c r=>
   by_cases h:c=45
   · subst h;rfl
   · have h1:(some c == some (45:UInt8))=false:=by simpa using h
     have h2:((45:UInt8) == c)=false:=by simpa using Ne.symm h
     simp only[List.isPrefixOf,List.head?_cons,h1,h2,Bool.false_and]
theorem DJ(s:ByteArray):(⟨(Lib.trimPrefix (bl s) [45]).toArray⟩:ByteArray)=cY s:=by
 unfold Lib.trimPrefix cY;rw[Ii];split
 · rfl
 · exact Zc s
theorem LO(s:ByteArray):PC Tryz.prog 169 [str s,str ⟨#[45]⟩] (.tup [str (cY s),boo (dZ s)]):=by
 refine PC.lib (a:=[.string s,.string ⟨#[45]⟩]) (v:=.tuple #[.string (cY s),.bool (dZ s)]) (fun S w=>⟨_,rfl,⟨_,_,rfl,rfl,⟨_,_,rfl,rfl,rfl⟩⟩⟩) fun w _=>(Tryz.strings_CutPrefix s ⟨#[45]⟩ w).mono fun e w' ⟨he,hw⟩=>?_
 rw[hw];refine⟨he.trans ?_,Below.refl _ _⟩;rw[show s.data.toList=bl s from rfl,show(⟨#[45]⟩:ByteArray).data.toList=[45]from rfl,DJ,Ii]
theorem vB(s:ByteArray):PC Tryz.prog 87 [str s,str ⟨#[45]⟩] (str (cY s)):=by
 refine PC.lib (a:=[.string s,.string ⟨#[45]⟩]) (v:=.string (cY s)) (fun S w=>rfl) fun w _=>(Tryz.strings_TrimPrefix s ⟨#[45]⟩ w).mono fun e w' ⟨he,hw⟩=>?_
 rw[hw];refine⟨he.trans ?_,Below.refl _ _⟩;rw[show s.data.toList=bl s from rfl,show(⟨#[45]⟩:ByteArray).data.toList=[45]from rfl,DJ]
theorem Kt(n:Int)(h0: -9223372036854775808≤n)(h1:n≤9223372036854775807):PC Tryz.prog 120 [int n] (str (zed n)):=by
 refine PC.lib (a:=[.int .i64 n]) (v:=.string (zed n)) (fun S w=>rfl) fun w ht=>(Tryz.strconv_Itoa n h0 h1 w (QT ht)).mono fun e w' ⟨he,k,os,hw⟩=>?_
 rw[hw];exact⟨he,lK k os⟩
theorem Ws(a b:ByteArray):PC Tryz.prog 170 [str a,str b] (int (Lib.compareBytes (bl a) (bl b))):=by
 refine PC.lib (a:=[.string a,.string b]) (v:=.int .i64 (Lib.compareBytes (bl a) (bl b))) (fun S w=>rfl) fun w _=>(Tryz.strings_Compare a b w).mono fun e w' ⟨he,hw⟩=>?_
 rw[hw];exact⟨he,Below.refl _ _⟩
theorem CS:(⟨#[48]⟩:ByteArray)=dec 0:=jG (by rw[fS,Lib.decDigits_one (by omega)];rfl)
theorem xN:(⟨#[49]⟩:ByteArray)=dec 1:=jG (by rw[fS,Lib.decDigits_one (by omega)];rfl)
theorem nM(s:ByteArray):(bl s == [48])=eqB s (dec 0):=by unfold eqB;rw[←CS];rfl
theorem Cw(s:ByteArray):(bl s == [49])=eqB s (dec 1):=by unfold eqB;rw[←xN];rfl
theorem Gn(s:ByteArray):(cY s).size≤s.size:=by
 unfold cY;split
 · rw[←bV,←bV,gM,List.length_drop];omega
 · exact Nat.le_refl _
theorem Bl(s:ByteArray)(h:s.size≤1048576):PC Tryz.prog 115 [str s] (.tup [boo (dZ s),str (cY s),boo (eU s)]):=by
 refine PC.body (c:=Tryz.f115.body.getD .skip) (fun _=>false) mixed Tryz.func115 rfl (by kernel_rfl) ?_;unfold Tryz.f115;simp only[Option.getD_some];simp only[go_sem];refine PC.use (LO s) ?_;simp only[go_sem];refine PC.use (xO (cY s) (by have:=Gn s;omega)) ?_;simp only[go_sem,nM];exact .refl _
theorem P4(s:ByteArray)(h:s.size≤1048576):PC Tryz.prog 82 [str s] (boo (eU s)):=by
 refine PC.body (c:=Tryz.f82.body.getD .skip) (fun _=>false) mixed Tryz.func82 rfl (by kernel_rfl) ?_;unfold Tryz.f82;simp only[Option.getD_some];simp only[go_sem];refine PC.use (Bl s h) ?_;simp only[go_sem];exact .refl _
theorem ZC(n:Int)(h0: -9223372036854775808≤n)(h1:n≤9223372036854775807):PC Tryz.prog 61 [int n] (str (zed n)):=by
 refine PC.body (c:=Tryz.f61.body.getD .skip) (fun _=>false) mixed Tryz.func61 rfl (by kernel_rfl) ?_;unfold Tryz.f61;simp only[Option.getD_some];simp only[go_sem];refine PC.use (Kt n h0 h1) ?_;simp only[go_sem];exact .refl _
def sg(m:Bool)(n:Nat):Int:=if m=true then -(n:Int)else n
theorem TG(m:Bool)(n:Nat):(if(m&& !eqB (dec n) (dec 0))=true then(⟨#[45]⟩:ByteArray)++dec n else dec n)=zed (sg m n):=by
 unfold sg;by_cases hn:n=0
 · subst hn
   rw[show eqB (dec 0) (dec 0)=true from lC.2 rfl];simp only[Bool.not_true,Bool.and_false,Bool.false_eq_true,if_false];rw[←fM];split <;> rfl
 · rw[show eqB (dec n) (dec 0)=false from mT.2 fun e=>hn (oB.1 e)]
   cases m with
   | true=>
     simp only[Bool.not_false,Bool.and_true,if_true];rw[yQ (by omega)];refine jG ?_;rw[kF,gM,fS];rfl
   | false=>
     simp only[Bool.false_and,Bool.false_eq_true,if_false];rw[fM]
theorem LH(m:Bool)(n:Nat)(hn:(dec n).size≤1048576):PC Tryz.prog 114 [.agg [boo m,str (dec n)]] (str (zed (sg m n))):=by
 refine PC.body (c:=Tryz.f114.body.getD .skip) (fun t=>t == 1) mixed Tryz.func114 rfl (by kernel_rfl) ?_;unfold Tryz.f114;simp only[Option.getD_some];simp only[go_sem];refine aN fun j hj=>?_
 have R:=aB bT j (some ⟨183,2,[[boo m,str (dec n)]]⟩);generalize aJ bT j _=H1 at R ⊢;simp only[go_sem,R];have ht:=TG m n;have he:(m&& !bl (dec n) == [48])=(m&& !eqB (dec n) (dec 0)):=by rw[←nM]
 rw[he];refine aA (fun hb=>?_) (fun hb=>?_)
 · rw[if_pos hb]at ht
   simp only[go_sem,R];refine⟨by show((1+(dec n).size:Nat):Int)≤9223372036854775807;omega,?_⟩;exact cS ht
 · rw[if_neg (by rw[hb];simp)]at ht
   simp only[go_sem,R];exact cS ht
theorem Qo(m:Bool)(n:Nat):(sg m n).natAbs=n:=by unfold sg;split <;> omega
theorem Cg(m:Bool)(n:Nat):PC Tryz.prog 172 [.agg [boo m,str (szN n).1],int (szN n).2] (.tup [str (szZ (sg m n)).1,int (szZ (sg m n)).2]):=by
 by_cases hn:n<cC
 · have hsz:=(fX n).2 hn
   rw[vH hn,show szZ (sg m n)=(zed (sg m n),0)from if_pos (by rw[Qo];exact hn)];refine PC.body (c:=Tryz.f172.body.getD .skip) (fun t=>t == 2) mixed Tryz.func172 rfl (by kernel_rfl) ?_;unfold Tryz.f172;simp only[Option.getD_some];simp only[go_sem];refine aN fun j hj=>?_
   have R:=aB bT j (some ⟨183,2,[[boo m,str (dec n)]]⟩);generalize aJ bT j _=H1 at R ⊢;simp only[go_sem,R];refine aA (fun hb=>by cases hb) (fun _=>?_);simp only[go_sem,R];refine PC.use (LH m n (by omega)) ?_;simp only[go_sem];exact .refl _
 · rw[show szN n=(emp,4)from if_neg hn,show szZ (sg m n)=(emp,4)from if_neg (by rw[Qo];exact hn)]
   refine PC.body (c:=Tryz.f172.body.getD .skip) (fun t=>t == 2) mixed Tryz.func172 rfl (by kernel_rfl) ?_;unfold Tryz.f172;simp only[Option.getD_some];simp only[go_sem];refine aN fun j hj=>?_
   simp only[go_sem];refine aA (fun hb=>?_) (fun hb=>by cases hb);simp only[go_sem];exact .refl _
def A5(s:ByteArray):List AV:=[boo (dZ s),str (cY s)]
theorem Iv(s:ByteArray):(A5 s).length=2:=(rfl)
theorem WS(s:ByteArray):(A5 s).getD 0 .any=boo (dZ s):=(rfl)
theorem XF(s:ByteArray):(A5 s).getD 1 .any=str (cY s):=(rfl)
theorem Q7(s:ByteArray):(A5 s).take 2=A5 s:=(rfl)
attribute [go_sem] Iv WS XF Q7
def A7(l:List ByteArray):Row:=⟨183,2,l.map A5⟩
def Tq(s:ByteArray):Bool:=decide ((cY s).size>4096)
def Dn(l:List ByteArray):Int:=if l.any (fun s=> !eU s)=true then 3 else if l.any Tq=true then 4 else 0
def zL(l:List ByteArray):List (List AV):=if Dn l=0 then l.map A5 else[]
theorem MA{α:Type}{q:α→Bool}{l:List α}{k:Nat}{c:α}(h:l[k]?=some c)(hq:q c=true):l.any q=true:=List.any_eq_true.2 ⟨c,List.mem_of_getElem? h,hq⟩
theorem Ih{α:Type}{q:α→Bool}{l:List α}(h:∀c∈l,q c=false):l.any q=false:=by
 rw[List.any_eq_false];intro c hc;rw[h c hc];simp
theorem Tx(l:List ByteArray)(hl:l.length≤1048576)(hs:∀s∈l,s.size≤1048576):PC Tryz.prog 110 [.sl (l.map Go.Aw.D.cV)] (.tup [.sl (zL l),int (Dn l)]):=by
 refine PC.body (c:=Tryz.f110.body.getD .skip) (fun t=>t == 4) mixed Tryz.func110 rfl (by kernel_rfl) ?_;unfold Tryz.f110;simp only[Option.getD_some];simp only[go_sem];refine aN fun j hj=>?_
 simp only[go_sem];refine⟨fun ρ H=>∃(k j:Nat),k≤l.length∧ρ 12=.sl (l.map Go.Aw.D.cV)∧ρ 13=int l.length∧ρ 4=.os j∧ρ 14=int k∧H j=some (A7 (l.take k))∧∀s∈l.take k,eU s=true,fun ρ _=>l.length-bQ (ρ 14),
   ⟨0,j,Nat.zero_le _,by simp only[go_sem],by simp only[go_sem,List.length_map],by simp only[go_sem],by simp only[go_sem];rfl,aB _ _ _,by simp⟩,?_⟩
 clear hj j;rintro ρ H ⟨k,j,hk,h12,h13,h4,h14,Rj,hz⟩;simp only[go_sem,h12,h13,h4,h14];refine aA (fun hlt=>?_) (fun hge=>?_)
 · have hlt:=ltB hlt
   obtain⟨s,hs0⟩:=bC hlt;have b1:=inB hlt;simp only[go_sem,h12,h13,h4,h14,aH hs0,b1];refine PC.use (Bl s (hs s (List.mem_of_getElem? hs0))) ?_;simp only[go_sem,h12,h13,h4,h14];refine aA (fun hb=>?_) (fun hb=>?_)
   · simp only[go_sem]
     have e:Dn l=3:=by unfold Dn;rw[if_pos (MA hs0 hb)]
     rw[show zL l=[]from if_neg (by rw[e];decide),e];exact .refl _
   · simp only[go_sem,h12,h13,h4,h14]
     refine bA Rj ⟨rfl,rfl⟩ ⟨rfl,trivial⟩ (by simp only[A7,List.length_map,List.length_take,List.length_cons,List.length_nil];omega) (fun j' hj'=>?_);simp only[go_sem,h12,h13,h4,h14,bG (show k≤4611686018427387904 by omega)];refine⟨⟨k+1,j',hlt,rfl,rfl,?_,rR hs0 (by simpa using hb) hz⟩,by simp only[aI];omega⟩;rw[aB];simp only[A7,cN hs0,List.map_append,List.map_cons,List.map_nil];rfl
 · have hge:=geB hk hge
   subst hge;rw[List.take_length]at Rj hz;have hR:l.any (fun s=> !eU s)=false:=Ih fun s hs=>by rw[hz s hs];rfl
   have hlen:((A7 l).es.length:Int)=l.length:=by simp[A7]
   simp only[go_sem,h4,Rj,hlen];refine⟨fun ρ H=>∃(k:Nat),k≤l.length∧ρ 4=.os j∧ρ 33=.os j∧ρ 34=int l.length∧ρ 35=int k∧H j=some (A7 l)∧∀s∈l.take k,Tq s=false,fun ρ _=>l.length-bQ (ρ 35),
     ⟨0,Nat.zero_le _,by simp only[go_sem,h4],by simp only[go_sem],by simp only[go_sem],by simp only[go_sem];rfl,Rj,by simp⟩,?_⟩
   clear h4 Rj h12 h13 h14;rintro ρ H ⟨k,hk,h4,h33,h34,h35,Rj,hz2⟩;simp only[go_sem,h4,h33,h34,h35];refine aA (fun hlt=>?_) (fun hge=>?_)
   · have hlt:=ltB hlt
     obtain⟨s,hs0⟩:=bC hlt;have b1:=inB hlt;have hes:(A7 l).es.getD k []=A5 s:=aH hs0;have b2:0≤(k:Int)∧(k:Int)<((A7 l).es.length:Nat):=by simp only[A7,List.length_map];exact b1
     simp only[go_sem,h4,h33,h34,h35,Rj,b2,hes];have hlen2:k<(A7 l).es.length:=by simp only[A7,List.length_map];exact hlt
     refine⟨rfl,⟨hlen2,Nat.le_refl 2⟩,?_⟩;refine aN fun i hi=>?_
     simp only[go_sem,h4,h33,h34,h35];have nji:j≠i:=aO Rj hi;refine aU (aB _ _ _) (by simp[Iv]) ?_;generalize hG:aJ (aJ _ i _) i _=HG;have Ri:HG i=some (⟨183,2,[A5 s]⟩:Row):=by rw[←hG,aB];rfl
     have Rj':HG j=some (A7 l):=by rw[←hG,aD _ _ _ _ nji,aD _ _ _ _ nji];exact Rj
     clear hG hi Rj;simp only[go_sem,h4,h33,h34,h35,Ri];have hd:decide (((cY s).size:Int)>4096)=Tq s:=by unfold Tq;rw[decide_eq_decide];omega
     rw[hd];refine aA (fun hb=>?_) (fun hb=>?_)
     · simp only[go_sem]
       have e:Dn l=4:=by unfold Dn;rw[if_neg (by rw[hR];simp),if_pos (MA hs0 hb)]
       rw[show zL l=[]from if_neg (by rw[e];decide),e];exact .refl _
     · simp only[go_sem,h4,h33,h34,h35,bG (show k≤4611686018427387904 by omega)]
       exact⟨⟨k+1,hlt,rfl,Rj',rR hs0 hb hz2⟩,by simp only[aI];omega⟩
   · have hge:=geB hk hge
     subst hge;rw[List.take_length]at hz2;simp only[go_sem,h4];have e:Dn l=0:=by unfold Dn;rw[if_neg (by rw[hR];simp),if_neg (by rw[Ih hz2];simp)]
     rw[show zL l=l.map A5 from if_pos e,e];exact .tup _ _ (.cons _ _ _ _ (.row _ _ _ Rj (ConvE.refl _)) (ConvL.refl _))
end Go.Proofs.YtdlijlecpopadaaGreatDoor.Nu
end
section
namespace Go.Proofs.YtdlijlecpopadaaGreatDoor.Nu
open Go.Aw Go.Aw.D Go.Proofs Ty Go.Nu
theorem At:∀{l r:List UInt8},l.all isD=true→r.all isD=true→l.length=r.length→Lib.compareBytes l r=iC (fJ l) (fJ r)
 | [],[],_,_,_=>by rw[oL rfl];rfl
 | [],_::_,_,_,h=>by simp at h
 | _::_,[],_,_,h=>by simp at h
 | a::l,b::r,hl,hr,h=>by
   simp only[List.all_cons,Bool.and_eq_true]at hl hr;simp only[List.length_cons,Nat.add_right_cancel_iff]at h;have ih:=At hl.2 hr.2 h;have ea:fJ (a::l)=(a.toNat-48)*10^l.length+fJ l:=by
     have:=pZ [a] l;simpa[fJ]using this
   have eb:fJ (b::r)=(b.toNat-48)*10^r.length+fJ r:=by
     have:=pZ [b] r;simpa[fJ]using this
   have h1:=Bf hl.2;have h2:=Bf hr.2;have da:=jT.1 hl.1;have db:=jT.1 hr.1;rw[Lib.compareBytes,ea,eb,←h]at *;have lt1:a<b↔a.toNat<b.toNat:=UInt8.lt_iff_toNat_lt;have lt2:b<a↔b.toNat<a.toNat:=UInt8.lt_iff_toNat_lt;split
   · rename_i hab
     rw[lt1]at hab;have:(a.toNat-48+1)*10^l.length≤(b.toNat-48)*10^l.length:=Nat.mul_le_mul_right _ (by omega);rw[Nat.add_mul]at this;rw[iX (by omega)]
   · split
     · rename_i hab
       rw[lt2]at hab;have:(b.toNat-48+1)*10^l.length≤(a.toNat-48)*10^l.length:=Nat.mul_le_mul_right _ (by omega);rw[Nat.add_mul]at this;rw[iZ (by omega)]
     · rename_i n1 n2
       rw[lt1]at n1;rw[lt2]at n2;have:a.toNat=b.toNat:=by omega
       rw[ih,this];generalize (b.toNat-48)*10^l.length=p;unfold iC;have c1:(((p+fJ l:Nat):Int)<((p+fJ r:Nat):Int))↔((fJ l:Nat):Int)<((fJ r:Nat):Int):=by omega
       have c2:(((p+fJ r:Nat):Int)<((p+fJ l:Nat):Int))↔((fJ r:Nat):Int)<((fJ l:Nat):Int):=by omega
       simp only[c1,c2]
theorem Co(m n:Nat):PC Tryz.prog 116 [str (dec m),str (dec n)] (int (iC m n)):=by
 have hm:=eY m;have hn:=eY n;have hmono:∀{p q:Nat},(Lib.decDigits p).length<(Lib.decDigits q).length→p<q:=fun {p q} h=>by
   have h1:=(eW (n:=p) (k:=(Lib.decDigits p).length) (fW p)).1 (Nat.le_refl _);rcases Nat.lt_or_ge p q with h2|h2
   · exact h2
   · have:=(eW (n:=q) (k:=(Lib.decDigits p).length) (fW p)).2 (by omega)
     omega
 refine PC.body (c:=Tryz.f116.body.getD .skip) (fun _=>false) mixed Tryz.func116 rfl (by kernel_rfl) ?_;unfold Tryz.f116;simp only[Option.getD_some];simp only[go_sem];refine aA (fun h=>?_) (fun h=>?_)
 · have h:(dec m).size≠(dec n).size:=neN h
   simp only[go_sem];refine aA (fun h2=>?_) (fun h2=>?_)
   · have h2:=ltB h2
     simp only[go_sem];have:=hmono (p:=m) (q:=n) (by omega);exact cI (by rw[iX (by omega)])
   · have h2:¬(dec m).size<(dec n).size:=by have:=of_decide_eq_false h2;omega
     simp only[go_sem];have:=hmono (p:=n) (q:=m) (by omega);exact cI (by rw[iZ (by omega)])
 · have h:(dec m).size=(dec n).size:=eqN h
   simp only[go_sem];refine PC.use (Ws (dec m) (dec n)) ?_;simp only[go_sem];refine cI ?_;rw[fS,fS,At (qC m) (qC n) (by omega),mA,mA]
theorem Ms(a b:ByteArray)(ha:cR a=true)(hb:cR b=true):PC Tryz.prog 116 [str a,str b] (int (iC (dJ a) (dJ b))):=by
 have:=Co (dJ a) (dJ b)
 rwa [gV ha,gV hb]at this
theorem zQ{s:ByteArray}(h:eU s=true):cR (cY s)=true:=by
 unfold eU at h;simp only[Bool.and_eq_true]at h;exact h.1
theorem Kj(a b:ByteArray)(ha:a.size≤1048576)(hb:b.size≤1048576):PC Tryz.prog 58 [str a,str b] (int (QR a b)):=by
 refine PC.body (c:=Tryz.f58.body.getD .skip) (fun _=>false) mixed Tryz.func58 rfl (by kernel_rfl) ?_;unfold Tryz.f58;simp only[Option.getD_some];simp only[go_sem];refine PC.use (Bl a ha) ?_;simp only[go_sem];refine PC.use (Bl b hb) ?_;simp only[go_sem];refine aA (fun h=>?_) (fun h=>?_)
 · simp only[go_sem]
   refine cI ?_;unfold QR;rw[if_neg];rintro⟨h1,h2⟩;rw[h1,h2]at h;cases h
 have hr:eU a=true∧eU b=true:=by simpa using h
 have ra:=zQ hr.1;have rb:=zQ hr.2;have hpos:∀{s:ByteArray},eU s=true→dZ s=true→0<dJ (cY s):=fun {s} h1 h2=>by
   have h3:=h1;unfold eU at h3;simp only[h2,Bool.true_and,Bool.and_eq_true,Bool.not_eq_true',mT]at h3;rcases Nat.eq_zero_or_pos (dJ (cY s))with h0|h0
   · have:=gV h3.1
     rw[h0]at this;exact absurd this.symm h3.2
   · exact h0
 have hv:QR a b=iC (iU a) (iU b):=if_pos hr;rw[hv];unfold iU;simp only[go_sem];refine aA (fun h2=>?_) (fun h2=>?_)
 · have h2:dZ a=true∧dZ b=true:=by simpa using h2
   simp only[go_sem];refine PC.use (Ms _ _ rb ra) ?_;simp only[go_sem];refine cI ?_;rw[if_pos h2.1,if_pos h2.2];unfold iC;have c1:(((dJ (cY b):Nat):Int)<((dJ (cY a):Nat):Int))↔(-((dJ (cY a):Nat):Int)< -((dJ (cY b):Nat):Int)):=by omega
   have c2:(((dJ (cY a):Nat):Int)<((dJ (cY b):Nat):Int))↔(-((dJ (cY b):Nat):Int)< -((dJ (cY a):Nat):Int)):=by omega
   simp only[c1,c2]
 · simp only[go_sem]
   refine aA (fun h3=>?_) (fun h3=>?_)
   · have h4:dZ b=false:=by rw[h3]at h2;simpa using h2
     have:=hpos hr.1 h3;simp only[go_sem];refine cI ?_;rw[if_pos h3,if_neg (by rw[h4];simp),iX (by omega)]
   · simp only[go_sem]
     refine aA (fun h4=>?_) (fun h4=>?_)
     · have:=hpos hr.2 h4
       simp only[go_sem];refine cI ?_;rw[if_neg (by rw[h3];simp),if_pos h4,iZ (by omega)]
     · simp only[go_sem]
       refine PC.use (Ms _ _ ra rb) ?_;simp only[go_sem];refine cI ?_;rw[if_neg (by rw[h3];simp),if_neg (by rw[h4];simp)]
def jC(m:Bool)(n:Nat):List AV:=[boo m,str (dec n)]
theorem Av(m:Bool)(n:Nat):(jC m n).length=2:=(rfl)
theorem TE(m:Bool)(n:Nat):(jC m n).getD 0 .any=boo m:=(rfl)
theorem Vz(m:Bool)(n:Nat):(jC m n).getD 1 .any=str (dec n):=(rfl)
theorem N1(m:Bool)(n:Nat):(jC m n).take 2=jC m n:=(rfl)
attribute [go_sem] Av TE Vz N1
theorem JP{m n:Nat}(hm:m<cC)(hn:n<cC):Lf (dec m) (dec n)=szN (m+n):=by unfold Lf;rw[if_pos (uV hm hn),bP,bP]
theorem Ht{m n:Nat}(hm:m<cC)(hn:n<cC)(h:n≤m):Kv (dec m) (dec n)=szN (m-n):=by unfold Kv;rw[if_pos (uV hm hn),bP,bP,if_neg (by omega)]
theorem dF{m:Nat}(hm:m<cC):(dec m).size≤1048576:=by have:=(fX m).2 hm;omega
theorem VR(a b:Bool)(m n:Nat)(hm:m<cC)(hn:n<cC):PC Tryz.prog 119 [.agg (jC a m),.agg (jC b n)] (.tup [str (szZ (sg a m+sg b n)).1,int (szZ (sg a m+sg b n)).2]):=by
 refine PC.body (c:=Tryz.f119.body.getD .skip) (fun t=>t == 2||t == 3) mixed Tryz.func119 rfl (by kernel_rfl) ?_;unfold Tryz.f119;simp only[Option.getD_some];simp only[go_sem];refine aN fun i hi=>?_
 simp only[go_sem];refine aN fun j hj=>?_
 have R2:=aB bT i (some ⟨183,2,[jC a m]⟩);have nij:i≠j:=aO R2 hj;have R3:=aB (aJ bT i (some ⟨183,2,[jC a m]⟩)) j (some ⟨183,2,[jC b n]⟩);have R2':(aJ (aJ bT i (some ⟨183,2,[jC a m]⟩)) j (some ⟨183,2,[jC b n]⟩)) i=some ⟨183,2,[jC a m]⟩:=by rw[aD _ _ _ _ nij];exact R2
 generalize aJ (aJ bT i _) j _=H1 at *;clear R2;simp only[go_sem,R2',R3];refine aA (fun h=>?_) (fun h=>?_)
 · have hab:a=b:=by simpa using h
   subst hab;simp only[go_sem,R2',R3];refine PC.use (SF (dec m) (dec n) (dF hm) (dF hn)) ?_;rw[JP hm hn];simp only[go_sem,R2',R3];refine PC.use (Cg a (m+n)) ?_;simp only[go_sem];have e:sg a (m+n)=sg a m+sg a n:=by unfold sg;split <;> omega
   rw[e];exact .refl _
 have hab:b= !a:=by cases a <;> cases b <;> simp_all
 subst hab;simp only[go_sem,R2',R3];refine PC.use (Co m n) ?_;simp only[go_sem,R2',R3];refine bD (fun ρ' H'=>∃(a' b':Bool) (p q:Nat),p<cC∧q<cC∧q≤p∧sg a' (p-q)=sg a m+sg (!a) n∧ρ' 2=.op i 0 0∧ρ' 3=.op j 0 0∧H' i=some (⟨183,2,[jC a' p]⟩:Row)∧H' j=some (⟨183,2,[jC b' q]⟩:Row)) ?_ fun K hK=>aA (fun hb=>?_) (fun hb=>?_)
 rotate_left
 · have hlt : m < n := by
     rcases Nat.lt_or_ge m n with h|h
     · exact h
     · exfalso
       have hb:=of_decide_eq_true hb;unfold iC at hb;rw[if_neg (by omega)]at hb;split at hb <;> omega
   simp only[go_sem,R2',R3];refine aU R2' (by simp[Av]) ?_;generalize hP:aJ H1 i _=HP;have R2:HP i=some (⟨183,2,[jC (!a) n]⟩:Row):=by rw[←hP,aB];rfl
   have R3':HP j=some (⟨183,2,[jC (!a) n]⟩:Row):=by rw[←hP,aD _ _ _ _ (Ne.symm nij)];exact R3
   clear hP;simp only[go_sem,R2,R3'];refine aU R3' (by simp[Av]) ?_;generalize hP:aJ HP j _=HQ;have S3:HQ j=some (⟨183,2,[jC a m]⟩:Row):=by rw[←hP,aB];rfl
   have S2:HQ i=some (⟨183,2,[jC (!a) n]⟩:Row):=by rw[←hP,aD _ _ _ _ nij];exact R2
   clear hP;simp only[go_sem];refine hK _ _ ⟨!a,a,n,m,hn,hm,by omega,?_,by simp only[go_sem],by simp only[go_sem],S2,S3⟩;unfold sg;cases a <;> simp <;> omega
 · have hge : n ≤ m := by
     rcases Nat.lt_or_ge m n with h|h
     · exact absurd (by rw[iX (by omega)];decide) (of_decide_eq_false hb)
     · exact h
   simp only[go_sem];refine hK _ _ ⟨a,!a,m,n,hm,hn,hge,?_,by simp only[go_sem],by simp only[go_sem],R2',R3⟩;unfold sg;cases a <;> simp <;> omega
 clear R2' R3;rintro ρ H ⟨a',b',p,q,hp,hq,hqp,hv,h2,h3,R2,R3⟩;simp only[go_sem,h2,h3,R2,R3];refine PC.use (SD (dec p) (dec q) (dF hp) (dF hq)) ?_;rw[Ht hp hq hqp];simp only[go_sem,h2,h3,R2,R3];refine PC.use (Cg a' (p-q)) ?_;simp only[go_sem];rw[hv];exact .refl _
theorem Hk(a b:ByteArray):Dn [a,b]=jY a b:=by
 unfold Dn jY Tq;simp only[List.any_cons,List.any_nil,Bool.or_false]
theorem Qz(n:Int):A5 (zed n)=jC (decide (n<0)) n.natAbs:=by
 unfold A5 jC;rw[tA,gU]
theorem KD(n:Int):sg (decide (n<0)) n.natAbs=n:=by
 unfold sg;by_cases h:n<0
 · simp[h];omega
 · simp[h];omega
theorem FK{m n:Int}(h:jY (zed m) (zed n)=0):zL [zed m,zed n]=[jC (decide (m<0)) m.natAbs,jC (decide (n<0)) n.natAbs]:=by
 unfold zL;rw[Hk,if_pos h];simp only[List.map_cons,List.map_nil,Qz]
theorem xV(a b:ByteArray)(ha:a.size≤1048576)(hb:b.size≤1048576):PC Tryz.prog 110 [.sl [[str a],[str b]]] (.tup [.sl (zL [a,b]),int (jY a b)]):=by
 have:=Tx [a,b] (by simp) (by simp[ha,hb])
 rwa [Hk]at this
theorem Xv(a b:ByteArray)(ha:a.size≤1048576)(hb:b.size≤1048576):PC Tryz.prog 60 [str a,str b] (.tup [str (O3 a b).1,int (O3 a b).2]):=by
 refine PC.body (c:=Tryz.f60.body.getD .skip) (fun _=>false) mixed Tryz.func60 rfl (by kernel_rfl) ?_;unfold Tryz.f60;simp only[Option.getD_some];simp only[go_sem];refine PC.use (xV a b ha hb) ?_;simp only[go_sem];refine aA (fun h=>?_) (fun h=>?_)
 · have h:jY a b≠0:=by simpa using h
   simp only[go_sem];rw[show O3 a b=(emp,jY a b)from if_neg h];exact .refl _
 have h:jY a b=0:=by simpa using h
 have e:O3 a b=szZ (iU a+iU b):=if_pos h;rw[e];obtain⟨m,n,rfl,rfl,hm,hn⟩:=rT h;rw[cU,cU,FK h];simp only[go_sem];refine gL (by rfl) (by kernel_rfl) ?_;simp only[go_sem,List.length_cons,List.length_nil]
 repeat (refine⟨by first|decide|omega,?_⟩)
 refine⟨_,(VR _ _ _ _ hm hn).q rfl,?_⟩;simp only[go_sem];rw[KD,KD];exact .refl _
theorem Wf(a b:ByteArray)(ha:a.size≤1048576)(hb:b.size≤1048576):PC Tryz.prog 67 [str a,str b] (.tup [str (Oe a b).1,int (Oe a b).2]):=by
 refine PC.body (c:=Tryz.f67.body.getD .skip) (fun _=>false) mixed Tryz.func67 rfl (by kernel_rfl) ?_;unfold Tryz.f67;simp only[Option.getD_some];simp only[go_sem];refine PC.use (xV a b ha hb) ?_;simp only[go_sem];refine aA (fun h=>?_) (fun h=>?_)
 · have h:jY a b≠0:=by simpa using h
   simp only[go_sem];rw[show Oe a b=(emp,jY a b)from if_neg h];exact .refl _
 have h:jY a b=0:=by simpa using h
 have e:Oe a b=szZ (iU a-iU b):=if_pos h;rw[e];obtain⟨m,n,rfl,rfl,hm,hn⟩:=rT h;rw[cU,cU,FK h];simp only[go_sem];refine gL (by rfl) (by kernel_rfl) ?_;simp only[go_sem,List.length_cons,List.length_nil]
 repeat (refine⟨by first|decide|omega,?_⟩)
 have hneg:sg (!decide (n<0)) n.natAbs= -n:=by
   unfold sg;by_cases h:n<0
   · simp[h];omega
   · simp[h];omega
 refine⟨_,(VR _ (!decide (n<0)) _ _ hm hn).q rfl,?_⟩;simp only[go_sem];rw[KD,hneg,Int.sub_eq_add_neg];exact .refl _
theorem Qt{m n:Nat}(hm:m<cC)(hn:n<cC):KT (dec m) (dec n)=szN (m*n):=by unfold KT;rw[if_pos (uV hm hn),bP,bP]
theorem WH(a b:ByteArray)(ha:a.size≤1048576)(hb:b.size≤1048576):PC Tryz.prog 171 [str a,str b] (.tup [str (uT a b).1,int (uT a b).2]):=by
 refine PC.body (c:=Tryz.f171.body.getD .skip) (fun _=>false) mixed Tryz.func171 rfl (by kernel_rfl) ?_;unfold Tryz.f171;simp only[Option.getD_some];simp only[go_sem];refine PC.use (xV a b ha hb) ?_;simp only[go_sem];refine aA (fun h=>?_) (fun h=>?_)
 · have h:jY a b≠0:=by simpa using h
   simp only[go_sem];rw[show uT a b=(emp,jY a b)from if_neg h];exact .refl _
 have h:jY a b=0:=by simpa using h
 have e:uT a b=szZ (iU a*iU b):=if_pos h;rw[e];obtain⟨m,n,rfl,rfl,hm,hn⟩:=rT h;rw[cU,cU,FK h];simp only[go_sem];refine gL (by rfl) (by kernel_rfl) ?_;simp only[go_sem,List.length_cons,List.length_nil]
 repeat (refine⟨by first|decide|omega,?_⟩)
 refine⟨_,(Xz (dec m.natAbs) (dec n.natAbs) (dF hm) (dF hn)).q rfl,?_⟩;rw[Qt hm hn];simp only[go_sem];refine gL (by rfl) (by kernel_rfl) ?_;simp only[go_sem,List.length_cons,List.length_nil]
 repeat (refine⟨by first|decide|omega,?_⟩)
 refine⟨_,(Cg _ (m.natAbs*n.natAbs)).q rfl,?_⟩;simp only[go_sem];have hs:sg (!(decide (m<0) == decide (n<0))) (m.natAbs*n.natAbs)=m*n:=by
   unfold sg;rw[Int.natCast_mul];by_cases h1:m<0 <;> by_cases h2:n<0
   · simp only[h1,h2,decide_true,beq_self_eq_true,Bool.not_true,Bool.false_eq_true,if_false]
     rw[Int.ofNat_natAbs_of_nonpos (by omega),Int.ofNat_natAbs_of_nonpos (by omega),Int.neg_mul_neg]
   · simp only[h1,h2,decide_true,decide_false]
     rw[if_pos (show(!(true == false))=true from rfl),Int.ofNat_natAbs_of_nonpos (by omega),Int.natAbs_of_nonneg (by omega),Int.neg_mul,Int.neg_neg]
   · simp only[h1,h2,decide_true,decide_false]
     rw[if_pos (show(!(false == true))=true from rfl),Int.ofNat_natAbs_of_nonpos (a:=n) (by omega),Int.natAbs_of_nonneg (by omega),Int.mul_neg,Int.neg_neg]
   · simp only[h1,h2,decide_false,beq_self_eq_true,Bool.not_true,Bool.false_eq_true,if_false]
     rw[Int.natAbs_of_nonneg (by omega),Int.natAbs_of_nonneg (by omega)]
 rw[hs];exact .refl _
theorem xF{P:Program}{C:kP}{PC:FuncId→List AV→aF→AV→Prop}{mt:Nat→Bool}{ops:Array Oper}{K:Env→aF→Prop}{m:Nat}{ρ:Env}{H:aF}(J:Env→aF→Prop)(h1:∀ρ H,J ρ H→K ρ H)
 (h2:∀K':Env→aF→Prop,(∀ρ H,J ρ H→K' ρ H)→rE P C PC mt ops K' m ρ H):rE P C PC mt ops K m ρ H:=h2 K h1
abbrev OY(A:List AV):Row:=⟨183,2,[A]⟩
abbrev zN:Row:=OY [.v (.bool false),.v (.string ByteArray.empty)]
theorem yF{A:List AV}(h:A.length=2):(⟨183,2,[List.take 2 A++List.drop (List.take 2 A).length [AV.v (.bool false),AV.v (.string ByteArray.empty)]]⟩:Row)=OY A:=by
 rw[List.take_of_length_le (by omega),h];simp
theorem IR{m n:Int}(hn:n≠0)(hs:decide (m<0)≠decide (n<0))(hr:m.natAbs%n.natAbs≠0):
   m.fdiv n= -((m.natAbs/n.natAbs+1:Nat):Int)∧m.fmod n=sg (decide (n<0)) (n.natAbs-m.natAbs%n.natAbs):=by
 have e:=Nat.mod_add_div m.natAbs n.natAbs;have hlt:=Nat.mod_lt m.natAbs (show 0<n.natAbs by omega);generalize m.natAbs/n.natAbs=q at *;generalize m.natAbs%n.natAbs=r at *;have e':(r:Int)+(n.natAbs:Int)*(q:Int)=(m.natAbs:Int):=by rw[←Int.natCast_mul,←Int.natCast_add,e]
 unfold sg;rcases Int.lt_or_gt_of_ne hn with h|h
 · have hm:¬m<0:=fun h2=>hs (by simp[h,h2])
   rw[Int.ofNat_natAbs_of_nonpos (a:=n) (by omega),Int.natAbs_of_nonneg (a:=m) (by omega)]at e';refine(Int.fdiv_fmod_unique' h).2 ⟨?_,?_,?_⟩
   · rw[if_pos (by simpa using h)]
     have:(n* -((q+1:Nat):Int))= -n*q-n:=by grind
     rw[this];omega
   · rw[if_pos (by simpa using h)];omega
   · rw[if_pos (by simpa using h)];omega
 · have hm : m < 0 := by
     rcases Int.lt_or_le m 0 with h2|h2
     · exact h2
     · exact absurd (by simp;omega) hs
   rw[Int.natAbs_of_nonneg (a:=n) (by omega),Int.ofNat_natAbs_of_nonpos (a:=m) (by omega)]at e';refine(Int.fdiv_fmod_unique h).2 ⟨?_,?_,?_⟩
   · rw[if_neg (by simp;omega)]
     have:(n* -((q+1:Nat):Int))= -(n*q)-n:=by grind
     rw[this];omega
   · rw[if_neg (by simp;omega)];omega
   · rw[if_neg (by simp;omega)];omega
theorem NZ{m n:Int}(hn:n≠0)(h0:decide (m<0)=decide (n<0)∨m.natAbs%n.natAbs=0):
   m.fdiv n=sg (!(decide (m<0) == decide (n<0))) (m.natAbs/n.natAbs)∧m.fmod n=sg (decide (n<0)) (m.natAbs%n.natAbs):=by
 have e:=Nat.mod_add_div m.natAbs n.natAbs;have hlt:=Nat.mod_lt m.natAbs (show 0<n.natAbs by omega);generalize m.natAbs/n.natAbs=q at *;generalize m.natAbs%n.natAbs=r at *;have e':(r:Int)+(n.natAbs:Int)*(q:Int)=(m.natAbs:Int):=by rw[←Int.natCast_mul,←Int.natCast_add,e]
 unfold sg;rcases Int.lt_or_gt_of_ne hn with h|h
 · rw[Int.ofNat_natAbs_of_nonpos (a:=n) (by omega)]at e'
   refine(Int.fdiv_fmod_unique' h).2 ?_;by_cases hm:m<0
   · rw[Int.ofNat_natAbs_of_nonpos (a:=m) (by omega)]at e'
     simp only[h,hm,decide_true,beq_self_eq_true,Bool.not_true,Bool.false_eq_true,if_false,if_true];have:n*(q:Int)= -(-n*q):=by grind
     exact⟨by rw[this];omega,by omega,by omega⟩
   · rw[Int.natAbs_of_nonneg (a:=m) (by omega)]at e'
     have hr:r=0:=by
       rcases h0 with h0|h0
       · simp[h,hm]at h0
       · exact h0
     simp only[h,hm,decide_true,decide_false,show(!(false == true))=true from rfl,if_true];have:n* -(q:Int)= -n*q:=by grind
     exact⟨by rw[this];omega,by omega,by omega⟩
 · rw[Int.natAbs_of_nonneg (a:=n) (by omega)]at e'
   refine(Int.fdiv_fmod_unique h).2 ?_;have hn0:¬n<0:=by omega
   by_cases hm:m<0
   · rw[Int.ofNat_natAbs_of_nonpos (a:=m) (by omega)]at e'
     have hr:r=0:=by
       rcases h0 with h0|h0
       · simp[hn0,hm]at h0
       · exact h0
     simp only[hn0,hm,decide_true,decide_false,show(!(true == false))=true from rfl,if_true,Bool.false_eq_true,if_false];have:n* -(q:Int)= -(n*q):=by grind
     exact⟨by rw[this];omega,by omega,by omega⟩
   · rw[Int.natAbs_of_nonneg (a:=m) (by omega)]at e'
     simp only[hn0,hm,decide_false,beq_self_eq_true,Bool.not_true,Bool.false_eq_true,if_false];exact⟨by omega,by omega,by omega⟩
theorem HT{m n:Nat}(hm:m<cC)(hn:n<cC)(h:n≠0):yX (dec m) (dec n)=(dec (m/n),dec (m%n),0):=by unfold yX;rw[if_pos (uV hm hn),bP,bP,if_neg h]
theorem Gb(a b:ByteArray)(ha:a.size≤1048576)(hb:b.size≤1048576):PC Tryz.prog 57 [str a,str b] (.tup [str (A8 a b).1,str (A8 a b).2.1,int (A8 a b).2.2]):=by
 refine PC.body (c:=Tryz.f57.body.getD .skip) (fun _=>false) mixed Tryz.func57 rfl (by kernel_rfl) ?_;unfold Tryz.f57;simp only[Option.getD_some];simp only[go_sem];refine PC.use (xV a b ha hb) ?_;simp only[go_sem];refine aA (fun h=>?_) (fun h=>?_)
 · have h:jY a b≠0:=by simpa using h
   simp only[go_sem];rw[show A8 a b=(emp,emp,jY a b)from if_neg h];exact .refl _
 have h:jY a b=0:=by simpa using h
 obtain⟨m,n,rfl,rfl,hm,hn⟩:=rT h;have e:A8 (zed m) (zed n)=if n=0 then(emp,emp,10)else(zed (m.fdiv n),zed (m.fmod n),0):=by unfold A8;rw[if_pos h,cU,cU]
 rw[e,FK h];simp only[go_sem];obtain⟨A,hA⟩:∃A,jC (decide (m<0)) m.natAbs=A:=⟨_,rfl⟩;obtain⟨B,hB⟩:∃B,jC (decide (n<0)) n.natAbs=B:=⟨_,rfl⟩;have hAl:A.length=2:=by rw[←hA];rfl
 have hBl:B.length=2:=by rw[←hB];rfl
 refine xF (fun ρ' H'=>∃i j,ρ' 9=.op i 0 0∧ρ' 10=.op j 0 0∧H' i=some (OY A)∧H' j=some (OY B)) ?_ fun K hK=>?_
 rotate_left
 · refine Bm [] (.q 0 (.q 1 (.q 2 (.q 3 (.q 4 (.q 5 (.a2 6 (.a1 7 (.a1 8 (.a1 9 .nil))) 7 (.a1 6 (.a1 8 (.a1 9 .nil)))))))))) (by simp) (by kernel_rfl) fun Hp Hr _ hq _ _=>?_
   simp only[go_sem,List.length_cons,List.length_nil,hA,hB]
   repeat (refine⟨by first|decide|omega,?_⟩)
   refine yR ?_ ?_
   · simp only[go_sem]
     refine aN fun i hi=>?_
     simp only[go_sem];refine aN fun j hj=>?_
     have R:=aB Hr i (some (zN));have nij:=aO R hj;have Ri:=jJ (r':=zN) R hj;have Rj:=aB (aJ Hr i (some (zN))) j (some (zN));simp only[go_sem];refine aU (r:=zN) Ri (by simp[hAl]) ?_;simp only[go_sem];refine aU (r:=zN) (by rw[aD _ _ _ _ nij.symm];exact Rj) (by simp[hBl]) ?_;simp only[go_sem];refine kA fun _ Hm _ hm=>hK _ _ ⟨i,j,by simp only[go_sem],by simp only[go_sem],?_,?_⟩
     · rw[hm i (by simp),aD _ _ _ _ nij,aB];exact congrArg some (yF hAl)
     · rw[hm j (by simp),aB];exact congrArg some (yF hBl)
   · simp only[go_sem]
     refine aN fun j hj=>?_
     simp only[go_sem];refine aN fun i hi=>?_
     have R:=aB Hr j (some (zN));have nij:=(aO R hi).symm;have Rj:=jJ (r':=zN) R hi;have Ri:=aB (aJ Hr j (some (zN))) i (some (zN));simp only[go_sem];refine aU (r:=zN) Ri (by simp[hAl]) ?_;simp only[go_sem];refine aU (r:=zN) (by rw[aD _ _ _ _ nij.symm];exact Rj) (by simp[hBl]) ?_;simp only[go_sem];refine kA fun _ Hm _ hm=>hK _ _ ⟨i,j,by simp only[go_sem],by simp only[go_sem],?_,?_⟩
     · rw[hm i (by simp),aD _ _ _ _ nij,aB];exact congrArg some (yF hAl)
     · rw[hm j (by simp),aB];exact congrArg some (yF hBl)
 rintro ρ H ⟨i,j,h9,h10,Ri,Rj⟩;subst hA hB;simp only[go_sem,h9,h10,Ri,Rj,nM];refine aA (fun hb0=>?_) (fun hb0=>?_)
 · have h0 : n = 0 := by
     have:=oB.1 (lC.1 hb0);omega
   simp only[go_sem];rw[if_pos h0];exact .refl _
 have h0:n≠0:=fun e=>by
   subst e;exact mT.1 hb0 rfl
 have hn0:n.natAbs≠0:=by omega
 rw[if_neg h0];simp only[go_sem,h9,h10,Ri,Rj];refine PC.use (V9 (dec m.natAbs) (dec n.natAbs) (dF hm) (dF hn)) ?_;rw[HT hm hn hn0];simp only[go_sem,h9,h10,Ri,Rj];refine aA (fun hb=>by cases hb) (fun _=>?_);simp only[go_sem,h9,h10,Ri,Rj,nM];have hqr:=Nat.mod_add_div m.natAbs n.natAbs;have hrlt:=Nat.mod_lt m.natAbs (show 0<n.natAbs by omega);refine bD (fun ρ' H'=>∃q r:Nat,ρ' 9=.op i 0 0∧ρ' 10=.op j 0 0∧H' i=some (OY (jC (decide (m<0)) m.natAbs))∧H' j=some (OY (jC (decide (n<0)) n.natAbs))∧ρ' 11=str (dec q)∧ρ' 12=str (dec r)∧q<cC∧r<cC∧sg (!(decide (m<0) == decide (n<0))) q=m.fdiv n∧sg (decide (n<0)) r=m.fmod n) ?_ fun K hK=>aA (fun hb=>?_) (fun hb=>?_)
 rotate_left
 · have hb : decide (m < 0) ≠ decide (n < 0) ∧ m.natAbs % n.natAbs ≠ 0 := by
     simp only[Bool.and_eq_true,Bool.not_eq_true',beq_eq_false_iff_ne,ne_eq,mT]at hb;exact⟨hb.1,fun e=>hb.2 (by rw[e])⟩
   obtain⟨f1,f2⟩:=IR h0 hb.1 hb.2;have hq1:m.natAbs/n.natAbs+1<cC:=by
     have h2:2≤n.natAbs:=by omega
     have h3:2*(m.natAbs/n.natAbs)≤n.natAbs*(m.natAbs/n.natAbs):=Nat.mul_le_mul_right _ h2;omega
   have hq2:m.natAbs/n.natAbs<cC:=by omega
   have h1m:(1:Nat)<cC:=Nat.lt_of_le_of_lt (Nat.le_add_left 1 _) hq1;have hrm:m.natAbs%n.natAbs<cC:=by omega
   generalize hQ:m.natAbs/n.natAbs=q at *;generalize hR:m.natAbs%n.natAbs=r at *;simp only[go_sem,h9,h10];rw[xN];refine PC.use (SF (dec q) (dec 1) (dF hq2) (dF h1m)) ?_;rw[JP hq2 h1m,vH hq1];simp only[go_sem,h9,h10,Ri,Rj];refine aA (fun hb=>by cases hb) (fun _=>?_);simp only[go_sem,h9,h10,Ri,Rj];refine PC.use (SD (dec n.natAbs) (dec r) (dF hn) (dF hrm)) ?_;rw[Ht hn hrm (by omega),vH (show n.natAbs-r<cC by omega)];simp only[go_sem,h9,h10,Ri,Rj];refine aA (fun hb=>by cases hb) (fun _=>?_);simp only[go_sem,h9,h10];refine hK _ _ ⟨q+1,n.natAbs-r,by simp only[go_sem,h9],by simp only[go_sem,h10],Ri,Rj,by simp only[go_sem],by simp only[go_sem],hq1,by omega,?_,f2.symm⟩;rw[f1];unfold sg;rw[if_pos (by simpa using hb.1)]
 · have hb : decide (m < 0) = decide (n < 0) ∨ m.natAbs % n.natAbs = 0 := by
     by_cases h1:decide (m<0)=decide (n<0)
     · exact .inl h1
     · refine .inr ?_
       have h2:(!(decide (m<0) == decide (n<0)))=true:=by simpa using h1
       rw[h2,Bool.true_and,Bool.not_eq_false']at hb;exact oB.1 (lC.1 hb)
   obtain⟨f1,f2⟩:=NZ h0 hb;have hq2:m.natAbs/n.natAbs<cC:=Nat.lt_of_le_of_lt (Nat.div_le_self _ _) hm;simp only[go_sem,h9,h10];exact hK _ _ ⟨_,_,by simp only[go_sem,h9],by simp only[go_sem,h10],Ri,Rj,by simp only[go_sem],by simp only[go_sem],hq2,by omega,f1.symm,f2.symm⟩
 clear h9 h10 Ri Rj;rintro ρ H ⟨q,r,h9,h10,Ri,Rj,h11,h12,hq,hr,f1,f2⟩;simp only[go_sem];refine gL (by rfl) (by kernel_rfl) ?_;simp only[go_sem,h9,h10,h11,h12,Ri,Rj];refine⟨_,(LH _ q (dF hq)).q rfl,?_⟩;simp only[go_sem,h9,h10,h11,h12,Ri,Rj];refine⟨_,(LH _ r (dF hr)).q rfl,?_⟩;simp only[go_sem,f1,f2];exact .refl _
end Go.Proofs.YtdlijlecpopadaaGreatDoor.Nu
end
