/- Texts joined by a program: NuU, NuV, NuW, NuX. -/
import Derived.Test.YtdlijlecpopadaaGreatDoorZy16

section
set_option linter.unusedSimpArgs false
set_option linter.unusedVariables false
namespace Go.Proofs.YtdlijlecpopadaaGreatDoor.Nu
open Go.Aw Go.Aw.D Go.Proofs Ty Go.Nu
set_option maxRecDepth 100000
theorem KR{p q:Nat}(h:p≤q):(dec p).size≤(dec q).size:=by
 rw[hU,hU];rcases Nat.lt_or_ge (Lib.decDigits q).length (Lib.decDigits p).length with h1|h1
 · exfalso
   have h2:=(jH (n:=q) (k:=(Lib.decDigits q).length) (gN q)).1 (Nat.le_refl _);have:=(jH (n:=p) (k:=(Lib.decDigits q).length) (gN q)).2 (by omega);omega
 · exact h1
theorem T1{d:Nat}(hd:d<10)(o:List Nat):Lib.decDigits d++txt o=txt (o++[d]):=by
 rw[Lib.decDigits_one hd];simp[txt]
theorem xL(n:Nat):(bl (dec n)).all isD=true:=by rw[gI];exact qU n
theorem Q2(n:Nat):ofL 10 (dl (bl (dec n)))=n:=by rw[ME,gI,nN]
theorem W7(m n:Nat)(h:n≤m)(hm:(dec m).size≤1048576):PC Tryz.prog 200 [str (dec m),str (dec n)] (str (dec (m-n))):=by
 have hmono:=KR h;have dm:=xL m;have dn:=xL n;have vm:=Q2 m;have vn:=Q2 n;have lm:=MT dm;have ln:=MT dn;have zm:=cE (dec m);have zn:=cE (dec n);have hpos:0<(dec m).size:=by rw[hU];exact gN m
 have xl:(dl (bl (dec m))).length=(dec m).size:=by rw[Dj];omega
 have yl:(dl (bl (dec n))).length=(dec n).size:=by rw[Dj];omega
 refine PC.body (c:=Tryz.f200.body.getD .skip) (fun _=>false) mixed Tryz.func200 rfl (by kernel_rfl) ?_;unfold Tryz.f200;simp only[Option.getD_some];simp only[go_sem];refine⟨fun ρ _=>∃(i c:Nat) (t:ByteArray) (o:List Nat),i≤(dec m).size∧ρ 0=str (dec m)∧ρ 1=str (dec n)∧ρ 5=str t∧ρ 6=int c∧ρ 7=int i∧bl t=txt o∧Lim 10 o∧o.length=i∧c≤1∧ofL 10 o+ofL 10 ((dl (bl (dec n))).take i)=ofL 10 ((dl (bl (dec m))).take i)+10^i*c,fun ρ _=>(dec m).size-bE (ρ 7),
   ⟨0,0,emp,[],Nat.zero_le _,rfl,rfl,rfl,rfl,rfl,rfl,by simp[Lim],rfl,by omega,by simp[ofL]⟩,?_⟩
 rintro ρ H ⟨i,c,t,o,hi,h0,h1,h5,h6,h7,hto,ho,hol,hc,hv⟩;have ht:t.size=i:=by rw[←cE,hto];simp[txt,hol]
 simp only[go_sem,h0,h1,h5,h6,h7];refine aB (fun hlt=>?_) (fun hge=>?_)
 · have hlt:=ltB hlt
   have hab:(dl (bl (dec m))).getD i 0<10:=lm.getD (by omega) i;have hyb:(dl (bl (dec n))).getD i 0<10:=ln.getD (by omega) i;have hd1:=B0 (b:=10) hab hyb hc;have hd2:=tM (b:=10) hab hyb hc;have hst:=yM (b:=10) (x:=dl (bl (dec m))) (y:=dl (bl (dec n))) (c':=if(dl (bl (dec m))).getD i 0<(dl (bl (dec n))).getD i 0+c then 1 else 0) (d:=if(dl (bl (dec m))).getD i 0<(dl (bl (dec n))).getD i 0+c then(dl (bl (dec m))).getD i 0+10-((dl (bl (dec n))).getD i 0+c)else(dl (bl (dec m))).getD i 0-((dl (bl (dec n))).getD i 0+c)) hol hv hd2.1;simp only[go_sem,h0,h1,h5,h6,h7];refine PC.use (Jx (dec m) dm i (by omega) (by omega)) ?_;simp only[go_sem,h0,h1,h5,h6,h7];refine PC.use (Jx (dec n) dn i (by omega) (by omega)) ?_;generalize (dl (bl (dec m))).getD i 0=a at *;generalize (dl (bl (dec n))).getD i 0=yi at *;have e1:IntKind.i64.wrap (IntKind.i64.wrap ((a:Int)-(yi:Int))-(c:Int))=(a:Int)-yi-c:=by
     rw[show IntKind.i64.wrap ((a:Int)-(yi:Int))=(a:Int)-yi from aQ (by omega),aQ (by omega)]
   simp only[go_sem,h0,h1,h5,h6,h7,e1];refine aU (fun ρ' H'=>ρ' 0=str (dec m)∧ρ' 1=str (dec n)∧ρ' 5=str t∧ρ' 7=int i∧ρ' 8=int (if a<yi+c then a+10-(yi+c)else a-(yi+c):Nat)∧ρ' 6=int (if a<yi+c then 1 else 0:Nat)) ?_ fun K hK=>aB (fun hb=>?_) (fun hb=>?_)
   rotate_left
   · have hb:a<yi+c:=by simp at hb;omega
     have e2:IntKind.i64.wrap ((a:Int)-yi-c+10)=((a+10-(yi+c):Nat):Int):=by rw[aQ (by omega)];omega
     simp only[go_sem,h0,h1,h5,h6,h7,e2];exact hK _ _ ⟨by simp only[go_sem,h0],by simp only[go_sem,h1],by simp only[go_sem,h5],by simp only[go_sem,h7],by simp only[go_sem,if_pos hb],by simp only[go_sem,if_pos hb];rfl⟩
   · have hb:¬a<yi+c:=by simp at hb;omega
     simp only[go_sem,h0,h1,h5,h6,h7];refine hK _ _ ⟨by simp only[go_sem,h0],by simp only[go_sem,h1],by simp only[go_sem,h5],by simp only[go_sem,h7],?_,by simp only[go_sem,if_neg hb];rfl⟩;simp only[go_sem,if_neg hb]
     congr 2
     omega
   clear h0 h1 h5 h6 h7;rintro ρ H ⟨h0,h1,h5,h7,h8,h6⟩;simp only[go_sem,h0,h1,h5,h6,h7,h8];generalize (if a<yi+c then a+10-(yi+c)else a-(yi+c))=d at *;refine PC.use (zC d hd2.2) ?_;have hds:(dec d).size=1:=by rw[hU,vL];exact hd2.2
   simp only[go_sem,h0,h1,h5,h6,h7,h8,bA (show i≤4611686018427387904 by omega)];refine⟨by show(((dec d).size+t.size:Nat):Int)≤9223372036854775807;omega,?_⟩;exact⟨⟨i+1,_,_,_,hlt,rfl,rfl,rfl,by rw[kN,gI,hto,T1 hd2.2],ho.snoc hd2.2,by simp[hol],by split <;> omega,hst⟩,by simp only[aH];omega⟩
 · have hge:=geB hi hge
   simp only[go_sem,h5];obtain⟨_,hV⟩:=AW (b:=10) (y:=dl (bl (dec n))) (by decide) ho lm (by omega) (by omega) (by omega) hc (by rw[xl,←hge];exact hv);refine PC.use (HU t (by omega) (fun e=>by rw[←cE,e]at ht;simp at ht;omega) (by rw[hto];exact Xo ho)) ?_;simp only[go_sem];refine cS ?_;unfold dR;rw[hto,Um ho,hV,vm,vn]
theorem VY{s:ByteArray}{k:Nat}{c:UInt8}(h:(bl s)[k]?=some c):bl (s.extract k (k+1))=[c]:=by
 rw[eQ,cM h,List.drop_append_of_le_length (by simp;have:=(List.getElem?_eq_some_iff.1 h).1;omega)];simp
theorem UD(m n:Nat):UP (dec m) (dec n)=gD m n:=by unfold UP;rw[kC,kC,bO,bO];rfl
theorem GY{m n:Nat}:decide (gD m n≥0)=decide (n≤m):=by
 unfold gD;rw[decide_eq_decide];split
 · simp;omega
 · split <;> simp <;> omega
theorem TK(r:Nat){c:UInt8}(hc:isD c=true)(s:ByteArray)(hs:bl s=[c]):(bl (dec r++s)).all isD=true∧bl (dec r++s)≠[]∧dR (dec r++s)=10*r+(c.toNat-48):=by
 refine⟨?_,?_,?_⟩
 · rw[kN,hs,List.all_append,xL]
   simp[hc]
 · rw[kN,hs];simp
 · unfold dR
   rw[kN,hs,lF,gI,nN]
theorem Ru{K M R:Nat}(hM:M=10^K)(hR:R<10*M):(dec R).size≤K+1:=by
 subst hM;rw[hU];exact(jH (k:=K+1) (by omega)).2 (by rw[Nat.pow_succ,Nat.mul_comm];exact hR)
theorem Zu:∃K,K=4096∧cC=10^K:=⟨Vc,rfl,by unfold cC;rfl⟩
theorem V1{R:Nat}(hR:R<10*cC):(dec R).size≤4097:=by
 obtain⟨K,hK,e⟩:=Zu;have:=Ru e hR;omega
def YP:AV→Nat
 | .v (.string s)=>dR s
 | _=>0
theorem yZ(n:Nat):YP (str (dec n))=n:=by show dR (dec n)=n;exact bO n
theorem YB(a b:ByteArray)(ha:a.size≤1048576)(hb:b.size≤1048576):PC Tryz.prog 161 [str a,str b] (.tup [str (AC a b).1,str (AC a b).2.1,int (AC a b).2.2]):=by
 refine PC.body (c:=Tryz.f161.body.getD .skip) (fun _=>false) mixed Tryz.func161 rfl (by kernel_rfl) ?_;unfold Tryz.f161;simp only[Option.getD_some];simp only[go_sem];refine PC.use (Jp a b ha hb) ?_;simp only[go_sem];refine aB (fun h=>?_) (fun h=>?_)
 · have h:iK a b≠0:=by simpa using h
   simp only[go_sem];rw[show AC a b=(emp,emp,iK a b)from if_neg h];exact .refl _
 have h:iK a b=0:=by simpa using h
 obtain⟨m,n,rfl,rfl,hm,hn⟩:=nS h;rw[show AC (dec m) (dec n)=if n=0 then(emp,emp,10)else(dec (m/n),dec (m%n),0)by unfold AC;rw[if_pos h,bO,bO]];simp only[go_sem,mE];refine aB (fun h0=>?_) (fun h0=>?_)
 · have h0:n=0:=nW.1 (kB.1 h0)
   simp only[go_sem];rw[if_pos h0];exact .refl _
 have h0:n≠0:=fun e=>lS.1 h0 (by rw[e])
 rw[if_neg h0];have zm:=cE (dec m);have dm:=xL m;have hpos:0<(dec m).size:=by rw[hU];exact gN m
 simp only[go_sem];refine⟨fun ρ _=>∃(k r:Nat) (q:ByteArray),k≤(dec m).size∧ρ 0=str (dec m)∧ρ 1=str (dec n)∧ρ 8=str q∧ρ 9=str (dec r)∧ρ 10=int k∧q.size=k∧(bl q).all isD=true∧r<n∧gA ((bl (dec m)).take k)=gA (bl q)*n+r,fun ρ _=>(dec m).size-bE (ρ 10),
   ⟨0,0,emp,Nat.zero_le _,by simp only[go_sem],by simp only[go_sem],by simp only[go_sem];rfl,by simp only[go_sem];rw[D9],by simp only[go_sem];rfl,rfl,rfl,by omega,by simp[gA,Yx]⟩,?_⟩
 rintro ρ H ⟨k,r,q,hk,h0',h1,h8,h9,h10,hq,hqd,hr,hv⟩;simp only[go_sem,h0',h1,h8,h9,h10];refine aB (fun hlt=>?_) (fun hge=>?_)
 · have hlt:=ltB hlt
   obtain⟨c,hc⟩:=aW (l:=bl (dec m)) (k:=k) (by omega);have hcd:=List.all_eq_true.1 dm c (List.mem_of_getElem? hc);have hc1:=VY hc;obtain⟨d1,d2,d3⟩:=TK r hcd _ hc1;have hc2:=kT.1 hcd;have hrs:=cV (Nat.lt_trans hr hn);have hes:((dec m).extract k (k+1)).size=1:=by rw[←cE,hc1];rfl
   simp only[go_sem,h0',h1,h8,h9,h10,bA (show k≤4611686018427387904 by omega),Int.toNat_natCast];refine⟨⟨by omega,by omega,by omega⟩,by show(((dec r).size+((dec m).extract k (k+1)).size:Nat):Int)≤9223372036854775807;omega,?_⟩;have hrs2:=(gJ r).2 (Nat.lt_trans hr hn);refine PC.use (HU _ (by rw[ByteArray.size_append];omega) d2 d1) ?_;rw[d3];generalize hR:10*r+(c.toNat-48)=R;have hRn:R<10*n:=by omega
   have hRs:=V1 (show R<10*cC by omega);simp only[go_sem,h0',h1,h8,h10];refine⟨fun ρ _=>∃(d r':Nat),ρ 0=str (dec m)∧ρ 1=str (dec n)∧ρ 8=str q∧ρ 10=int k∧ρ 9=str (dec r')∧ρ 11=int d∧d*n+r'=R,fun ρ _=>YP (ρ 9),
     ⟨0,R,by simp only[go_sem,h0'],by simp only[go_sem,h1],by simp only[go_sem,h8],by simp only[go_sem,h10],by simp only[go_sem],by simp only[go_sem];rfl,by omega⟩,?_⟩
   clear h0' h1 h8 h9 h10;rintro ρ H ⟨d,r',h0',h1,h8,h10,h9,h11,hd⟩;have hr's:=KR (show r'≤R by omega);simp only[go_sem,h0',h1,h8,h9,h10,h11];refine PC.use (Mj (dec r') (dec n) (by omega) (cV hn)) ?_;rw[UD];simp only[go_sem,h0',h1,h8,h9,h10,h11,GY];have hd10:d<10:=by
     rcases Nat.lt_or_ge d 10 with h|h
     · exact h
     · have:=Nat.mul_le_mul_right n h
       omega
   have e0:∀{x y:Nat},decide ((y:Int)≤(x:Int))=decide (y≤x):=fun {x y}=>by rw[decide_eq_decide];omega
   refine aB (fun hge=>?_) (fun hlt2=>?_)
   · have hge:n≤r':=by have:=of_decide_eq_true hge;omega
     simp only[go_sem,h0',h1,h8,h9,h10,h11];refine PC.use (W7 r' n hge (by omega)) ?_;simp only[go_sem,h0',h1,h8,h9,h10,h11,bA (show d≤4611686018427387904 by omega)];refine⟨⟨d+1,r'-n,rfl,rfl,by rw[Nat.add_mul];omega⟩,?_⟩;rw[yZ,yZ];omega
   · have hlt2:r'<n:=by have:=of_decide_eq_false hlt2;omega
     simp only[go_sem,h0',h1,h8,h9,h10,h11];refine PC.use (zC d hd10) ?_;have hds:(dec d).size=1:=by rw[hU,vL];exact hd10
     simp only[go_sem,h0',h1,h8,h9,h10,h11,bA (show k≤4611686018427387904 by omega)];refine⟨by show((q.size+(dec d).size:Nat):Int)≤9223372036854775807;omega,?_⟩;refine⟨⟨k+1,r',_,hlt,rfl,rfl,rfl,by rw[ByteArray.size_append];omega,?_,hlt2,?_⟩,by simp only[aH];omega⟩
     · rw[kN,List.all_append,hqd,xL];rfl
     · rw[cM hc,lF,hv,kN,gI,Lib.decDigits_one hd10,lF,lK hd10,show 48+d-48=d by omega,Nat.add_mul,Nat.mul_assoc]
       omega
 · have hge:=geB hk hge
   simp only[go_sem,h8,h9];refine PC.use (HU q (by omega) (fun e=>by rw[←cE,e]at hq;simp at hq;omega) hqd) ?_;simp only[go_sem,h8,h9];rw[hge,List.take_of_length_le (by omega),gI,nN]at hv;have hv:m=dR q*n+r:=hv;have hq2:m/n=dR q:=by
     rw[hv,Nat.add_comm,Nat.add_mul_div_right _ _ (by omega),Nat.div_eq_of_lt hr,Nat.zero_add]
   have hr2:m%n=r:=by
     rw[hv,Nat.add_comm,Nat.add_mul_mod_self_right,Nat.mod_eq_of_lt hr]
   rw[hq2,hr2];exact .refl _
theorem Ul(a b:ByteArray)(ha:a.size≤1048576)(hb:b.size≤1048576):PC Tryz.prog 106 [str a,str b] (.tup [str (vA a b).1,int (vA a b).2]):=by
 refine PC.body (c:=Tryz.f106.body.getD .skip) (fun _=>false) mixed Tryz.func106 rfl (by kernel_rfl) ?_;unfold Tryz.f106;simp only[Option.getD_some];simp only[go_sem];refine PC.use (Jp a b ha hb) ?_;simp only[go_sem];refine aB (fun h=>?_) (fun h=>?_)
 · have h:iK a b≠0:=by simpa using h
   simp only[go_sem];rw[show vA a b=(emp,iK a b)from if_neg h];exact .refl _
 have h:iK a b=0:=by simpa using h
 obtain⟨m,n,rfl,rfl,hm,hn⟩:=nS h;rw[show vA (dec m) (dec n)=szN (Nat.gcd m n)by unfold vA;rw[if_pos h,bO,bO]];simp only[go_sem];refine⟨fun ρ _=>∃(x y:Nat),ρ 0=str (dec x)∧ρ 1=str (dec y)∧x<cC∧y<cC∧Nat.gcd m n=Nat.gcd x y,fun ρ _=>YP (ρ 1),⟨m,n,by simp only[go_sem],by simp only[go_sem],hm,hn,rfl⟩,?_⟩;rintro ρ H ⟨x,y,h0,h1,hx,hy,hg⟩;simp only[go_sem,h0,h1,mE];refine aB (fun hb=>?_) (fun hb=>?_)
 · have hy0 : y ≠ 0 := fun e => by
     rw[e,show eqB (dec 0) (dec 0)=true from kB.2 rfl]at hb;cases hb
   simp only[go_sem,h0,h1];refine PC.use (YB (dec x) (dec y) (cV hx) (cV hy)) ?_;rw[JZ hx hy hy0];simp only[go_sem,h0,h1];have hlt:=Nat.mod_lt x (show 0<y by omega);refine⟨⟨y,x%y,rfl,rfl,hy,by omega,?_⟩,by rw[yZ,yZ];exact hlt⟩;rw[hg,Nat.gcd_comm x y,Nat.gcd_rec y x,Nat.gcd_comm]
 · have hy0 : y = 0 := by
     have:eqB (dec y) (dec 0)=true:=by simpa using hb
     exact nW.1 (kB.1 this)
   simp only[go_sem,h0];rw[hg,hy0,Nat.gcd_zero_right,tJ hx];exact .refl _
end Go.Proofs.YtdlijlecpopadaaGreatDoor.Nu
end

section
set_option linter.unusedSimpArgs false
set_option linter.unusedVariables false
namespace Go.Proofs.YtdlijlecpopadaaGreatDoor.Nu
open Go.Aw Go.Aw.D Go.Proofs Ty Go.Nu
set_option maxRecDepth 100000
theorem LX(c d:UInt8):(((c.toNat:Nat):Int) == ((d.toNat:Nat):Int))=(c == d):=by
 rw[Bool.eq_iff_iff,beq_iff_eq,beq_iff_eq,Int.ofNat_inj,UInt8.toNat_inj]
theorem sJ(s:ByteArray):(decide ((s.size:Int)>0)&&(((bl s).getD 0 0).toNat:Int) == 45)=dZ s:=by
 rw[←cE];unfold dZ;cases bl s with
 | nil=>rfl
 | cons c r=>
   rw[show decide ((((c::r).length:Nat):Int)>0)=true by simp];simp only[List.getD_cons_zero,List.head?_cons,Bool.true_and];rw[show(some c == some (45:UInt8))=(c == 45)from rfl];exact LX c 45
def stN(s:ByteArray):Nat:=if dZ s=true then 1 else 0
theorem rL(s:ByteArray):bl (dO s)=(bl s).drop (stN s):=by
 unfold dO stN;split
 · exact iO _
 · rw[List.drop_zero]
theorem Hw(s:ByteArray):stN s≤(bl s).length:=by
 unfold stN;split
 · rename_i h
   unfold dZ at h;cases hb:bl s with
   | nil=>rw[hb]at h;cases h
   | cons c r=>simp
 · omega
theorem G8{s:ByteArray}{c:UInt8}(h1:(bl s)[stN s]?=some c)(h2:((bl s).drop (stN s)).all isD=true):eC s=((c != 48)||bl s == [48]):=by
 obtain⟨hk,hc⟩:=List.getElem?_eq_some_iff.1 h1;have e1:bl (dO s)=c::(bl s).drop (stN s+1):=by rw[rL,List.drop_eq_getElem_cons hk,hc]
 have e0:eqB (dO s) (dec 0)=(c::(bl s).drop (stN s+1) == [48]):=by rw[←mE,e1]
 have h2:(c::(bl s).drop (stN s+1)).all isD=true:=by rw[←e1,rL];exact h2
 unfold eC dB dU;rw[e0,e1];rw[h2,Bool.and_true,show((c::(bl s).drop (stN s+1)) != [])=true from rfl,Bool.true_and,List.getD_cons_zero];by_cases hm:dZ s=true
 · have e2 : (bl s == [48]) = false := by
     unfold dZ at hm;cases hb:bl s with
     | nil=>rw[hb]at hm;cases hm
     | cons x r=>
       rw[hb]at hm;have:x=45:=by simpa using hm
       subst this;rfl
   rw[hm,e2];cases hr:(bl s).drop (stN s+1)with
   | nil=>cases h3:(c == 48) <;> simp[bne,h3] <;> simpa using h3
   | cons y r=>cases h3:(c == 48) <;> simp[bne,h3]
 · have hd:dO s=s:=if_neg hm
   have hm:dZ s=false:=by simpa using hm
   rw[hd]at e1;rw[hm,Bool.false_and,Bool.not_false,Bool.and_true,show(bl s == [48])=(c::(bl s).drop (stN s+1) == [48])by rw[←e1]];cases hr:(bl s).drop (stN s+1)with
   | nil=>cases h3:(c == 48) <;> simp[bne,h3]
   | cons y r=>cases h3:(c == 48) <;> simp[bne,h3]
theorem tB(s:ByteArray)(h:s.size≤1048576):PC Tryz.prog 102 [str s] (boo (eC s)):=by
 have hs:=cE s;have hst:=Hw s;refine PC.body (c:=Tryz.f102.body.getD .skip) (fun _=>false) mixed Tryz.func102 rfl (by kernel_rfl) ?_;unfold Tryz.f102;simp only[Option.getD_some];simp only[go_sem];refine⟨fun h=>⟨by omega,by have:=of_decide_eq_true h;omega⟩,?_⟩;rw[sJ];refine aU (fun ρ' H'=>ρ' 0=str s∧ρ' 3=int (stN s:Nat)) ?_ fun K hK=>aB (fun hb=>?_) (fun hb=>?_)
 rotate_left
 · simp only[go_sem]
   exact hK _ _ ⟨by simp only[go_sem],by simp only[go_sem];rw[show stN s=1 from if_pos hb];rfl⟩
 · simp only[go_sem]
   exact hK _ _ ⟨by simp only[go_sem],by simp only[go_sem];rw[show stN s=0 from if_neg (by rw[hb];simp)];rfl⟩
 rintro ρ H ⟨h0,h3⟩;simp only[go_sem,h0,h3];refine aB (fun hb=>?_) (fun hb=>?_)
 · simp only[go_sem]
   refine cB ?_;have he:s.size=stN s:=by rw[beq_iff_eq]at hb;omega
   unfold eC dB dU;rw[rL,List.drop_of_length_le (by omega)];rfl
 have hne:stN s<(bl s).length:=by rw[beq_eq_false_iff_ne]at hb;omega
 simp only[go_sem,h0,h3];refine⟨fun ρ _=>∃k:Nat,stN s≤k∧k≤(bl s).length∧ρ 0=str s∧ρ 3=int (stN s:Nat)∧ρ 4=int k∧∀c∈((bl s).take k).drop (stN s),isD c=true,fun ρ _=>(bl s).length-bE (ρ 4),⟨stN s,Nat.le_refl _,by omega,by simp only[go_sem,h0],by simp only[go_sem,h3],by simp only[go_sem,h3],by rw[List.drop_of_length_le (by simp;omega)];simp⟩,?_⟩;clear h0 h3;rintro ρ H ⟨k,hk1,hk,h0,h3,h4,hz⟩;simp only[go_sem,h0,h3,h4];refine aB (fun hlt=>?_) (fun hge=>?_)
 · have hlt:k<(bl s).length:=by have:=ltB hlt;omega
   obtain⟨c,hc⟩:=aW hlt;have hi:=oK hc;simp only[go_sem,h0,h3,h4,hi,Ii];have hnew:((bl s).take (k+1)).drop (stN s)=((bl s).take k).drop (stN s)++[c]:=by
     rw[cM hc,List.drop_append_of_le_length (by rw[List.length_take];omega)]
   refine⟨⟨by omega,by omega⟩,fun _=>⟨by omega,by omega⟩,aB (fun hb2=>?_) (fun hb2=>?_)⟩
   · simp only[go_sem]
     refine cB ?_;unfold eC dB dU;rw[rL];rw[Mp (k:=k-stN s) (c:=c) (by rw[List.getElem?_drop,show stN s+(k-stN s)=k by omega];exact hc) (by simpa using hb2)];simp
   · simp only[go_sem,h0,h3,h4,bA (show k≤4611686018427387904 by omega)]
     refine⟨⟨k+1,by omega,hlt,rfl,?_⟩,by simp only[aH];omega⟩;rw[hnew];intro x hx;rcases List.mem_append.1 hx with hx|hx
     · exact hz x hx
     · rw[List.mem_singleton.1 hx];simpa using hb2
 · have hge:k=(bl s).length:=by rw[←hs]at hge;exact geB hk hge
   subst hge;rw[List.take_length]at hz;obtain⟨c,hc⟩:=aW hne;simp only[go_sem,h0,h3,h4,oK hc];refine⟨⟨by omega,by omega⟩,?_⟩;refine cB ?_;rw[G8 hc (Hd hz)]
   congr 1
   rw[bne,bne,←LX c 48];rfl
theorem Be(s:ByteArray)(h:s.size≤1048576):PC Tryz.prog 196 [str s] (int (dO s).size):=by
 have hs:=cE s;refine PC.body (c:=Tryz.f196.body.getD .skip) (fun _=>false) mixed Tryz.func196 rfl (by kernel_rfl) ?_;unfold Tryz.f196;simp only[Option.getD_some];simp only[go_sem];refine⟨fun h=>⟨by omega,by have:=of_decide_eq_true h;omega⟩,?_⟩;rw[sJ];have hd:(dO s).size=s.size-stN s:=by rw[←cE,rL,List.length_drop,hs]
 have hst:=Hw s;refine aB (fun hb=>?_) (fun hb=>?_)
 · have:stN s=1:=if_pos hb
   simp only[go_sem];refine cI ?_;rw[aQ (by omega)];omega
 · have:stN s=0:=if_neg (by rw[hb];simp)
   simp only[go_sem];exact cI (by omega)
theorem yU(a b:ByteArray)(ha:a.size≤1048576)(hb:b.size≤1048576):PC Tryz.prog 157 [str a,str b] (int (iQ a b)):=by
 refine PC.body (c:=Tryz.f157.body.getD .skip) (fun _=>false) mixed Tryz.func157 rfl (by kernel_rfl) ?_;unfold Tryz.f157;simp only[Option.getD_some];simp only[go_sem];refine PC.use (tB a (by omega)) ?_;simp only[go_sem];refine⟨_,fun _=>(tB b (by omega)).q rfl,?_⟩;simp only[go_sem];unfold iQ;refine aB (fun hc=>?_) (fun hc=>?_)
 · simp only[go_sem]
   exact cI (by rw[if_pos hc])
 · simp only[go_sem]
   refine PC.use (Be a ha) ?_;simp only[go_sem];refine⟨_,fun _=>(Be b hb).q rfl,?_⟩;simp only[go_sem];have e1:decide (((dO a).size:Int)>4096)=decide ((dO a).size>4096):=by rw[decide_eq_decide];omega
   have e2:decide (((dO b).size:Int)>4096)=decide ((dO b).size>4096):=by rw[decide_eq_decide];omega
   rw[if_neg (by rw[hc];simp),e1,e2];refine aB (fun hd=>?_) (fun hd=>?_)
   · simp only[go_sem]
     exact cI (by rw[if_pos hd])
   · simp only[go_sem]
     exact cI (by rw[if_neg (by rw[hd];simp)])
theorem SO{n:Int}(h:(!decide (n.natAbs<cC))=true):szZ n=(emp,4):=if_neg (fun h2=>by rw[decide_eq_true h2]at h;cases h)
theorem ER(n:Int)(h:(zed n).size≤1048576):PC Tryz.prog 306 [str (zed n)] (.tup [str (szZ n).1,int (szZ n).2]):=by
 refine PC.body (c:=Tryz.f306.body.getD .skip) (fun _=>false) mixed Tryz.func306 rfl (by kernel_rfl) ?_;unfold Tryz.f306;simp only[Option.getD_some];simp only[go_sem];refine PC.use (Be (zed n) h) ?_;simp only[go_sem];have e1:decide (((dO (zed n)).size:Int)>4096)= !decide (n.natAbs<cC):=by
   rw[←decide_not,decide_eq_decide];have:=nZ n;omega
 rw[e1];refine aB (fun hd=>?_) (fun hd=>?_)
 · simp only[go_sem]
   rw[SO hd];exact .refl _
 · simp only[go_sem]
   rw[show szZ n=(zed n,0)from if_pos (by simpa using hd)];exact .refl _
theorem VE(l:List Nat)(h:l.length≤4611686018427387904):PC Tryz.prog 197 [.sl (l.map eP)] (.sl ((lM l).map eP)):=by
 refine PC.body (c:=Tryz.f197.body.getD .skip) (fun _=>false) mixed Tryz.func197 rfl (by kernel_rfl) ?_;unfold Tryz.f197;simp only[Option.getD_some];simp only[go_sem];refine⟨fun ρ _=>∃k:Nat,k≤l.length∧ρ 0=.sl (l.map eP)∧ρ 3=int k∧lM (l.take k)=lM l,fun ρ _=>bE (ρ 3),⟨l.length,Nat.le_refl _,by simp only[go_sem],by simp only[go_sem,List.length_map],by rw[List.take_length]⟩,?_⟩;rintro ρ H ⟨k,hk,h0,h3,hz⟩;cases k with
 | zero=>
   have hz':lM l=[]:=by rw[←hz];rfl
   have e0:(IntKind.i64.wrap (((0:Nat):Int)-1)).toNat=0:=rfl;rw[hz'];cases l with
   | nil=>
     simp only[go_sem,h0,h3,e0,List.map_nil,List.getD_nil,show decide (((0:Nat):Int)>0)=false from rfl];refine aB (fun hb=>by cases hb) (fun _=>?_);simp only[go_sem,h0,h3];exact⟨⟨by omega,by omega⟩,.refl _⟩
   | cons x l=>
     simp only[go_sem,h0,h3,e0,List.map_cons,List.getD_cons_zero,show decide (((0:Nat):Int)>0)=false from rfl];refine aB (fun hb=>by cases hb) (fun _=>?_);simp only[go_sem,h0,h3];exact⟨⟨by omega,by omega⟩,.refl _⟩
 | succ k=>
 have b1:IntKind.i64.wrap (((k+1:Nat):Int)-1)=(k:Int):=by rw[aQ (by omega)];omega
 obtain⟨x,hx⟩:=aW (show k<l.length by omega);have e1:l.take (k+1)=l.take k++[x]:=cM hx;have b2:=inB (show k<l.length by omega);simp only[go_sem,h0,h3,b1,aF hx,b2,show decide (((k+1:Nat):Int)>0)=true from decide_eq_true (by omega)];refine aB (fun hb=>?_) (fun hb=>?_)
 · have hx0:x=0:=by simpa using hb
   simp only[go_sem,h0,h3,b1];refine⟨⟨k,by omega,rfl,?_⟩,?_⟩
   · rw[e1,sF,if_pos hx0]at hz;exact hz
   · simp only[aH];omega
 · have hx0:x≠0:=by simpa using hb
   simp only[go_sem,h0,h3];rw[e1,sF,if_neg hx0]at hz;rw[←List.map_take,e1,hz];exact⟨⟨by omega,by omega⟩,.refl _⟩
theorem oX(l:List Nat)(i:Nat)(hi:i≤4611686018427387904)(h:l.length≤4611686018427387904):PC Tryz.prog 321 [.sl (l.map eP),int i] (int (l.getD i 0:Nat)):=by
 refine PC.body (c:=Tryz.f321.body.getD .skip) (fun _=>false) mixed Tryz.func321 rfl (by kernel_rfl) ?_;unfold Tryz.f321;simp only[Option.getD_some];simp only[go_sem];refine aB (fun hb=>?_) (fun hb=>?_)
 · have hb:i<l.length:=by simpa using hb
   obtain⟨x,hx⟩:=aW hb;have b1:=inB hb;simp only[go_sem,aF hx,b1];exact cI (by simp[List.getD,hx])
 · have hb:l.length≤i:=by simpa using hb
   simp only[go_sem];exact cI (by simp[List.getD,List.getElem?_eq_none hb])
end Go.Proofs.YtdlijlecpopadaaGreatDoor.Nu
end

section
set_option linter.unusedSimpArgs false
set_option linter.unusedVariables false
namespace Go.Proofs.YtdlijlecpopadaaGreatDoor.Nu
open Go.Aw Go.Aw.D Go.Proofs Ty Go.Nu
set_option maxRecDepth 100000
abbrev dg(n:Nat):AV:=.sl ((aM 10 n).map eP)
theorem Dg{l:List Nat}(hl:Lim 10 l)(h:l.length≤4611686018427387904){n:Nat}(hn:ofL 10 l=n):PC Tryz.prog 197 [.sl (l.map eP)] (dg n):=by
 have:=VE l h
 rwa [G5 (by decide) hl hn]at this
def upN:AV→Nat
 | .v (.int _ n)=>(n+1).toNat
 | _=>0
theorem Aq(k:IntKind)(n:Int):upN (.v (.int k n))=(n+1).toNat:=(rfl)
theorem Wu(c:UInt8)(l:List UInt8):dl (c::l)=dl l++[c.toNat-48]:=by simp[dl]
theorem X9{k:Nat}(h:k≤4611686018427387904):IntKind.i64.wrap ((k:Int)-1-1)=(k:Int)-1-1:=aQ (by omega)
theorem mY(n:Int)(h:(zed n).size≤1048576):PC Tryz.prog 158 [str (zed n)] (.tup [boo (decide (n<0)),dg n.natAbs]):=by
 have hs:=cE (zed n);have hr:dB (dO (zed n))=true:=by rw[hY];exact kC _
 have hbd:=rL (zed n);have hst:=Hw (zed n);have hall:((bl (zed n)).drop (stN (zed n))).all isD=true:=by rw[←hbd,hY];exact xL _
 have hlen:stN (zed n)<(bl (zed n)).length:=by
   have h1:0<(bl (dO (zed n))).length:=by rw[hY,gI];exact gN _
   rw[hbd,List.length_drop]at h1;omega
 have hm:(((((bl (zed n)).getD 0 0).toNat:Nat):Int) == 45)=dZ (zed n):=by
   rw[←sJ,show decide (((zed n).size:Int)>0)=true by simp;omega,Bool.true_and]
 refine PC.body (c:=Tryz.f158.body.getD .skip) (fun t=>t == 4) mixed Tryz.func158 rfl (by kernel_rfl) ?_;unfold Tryz.f158;simp only[Option.getD_some];simp only[go_sem];refine aL fun j hj=>?_
 simp only[go_sem,hm];refine⟨⟨by omega,by omega⟩,?_⟩;refine⟨fun ρ H=>∃(k j:Nat),k≤(bl (zed n)).length∧ρ 0=str (zed n)∧ρ 5=boo (dZ (zed n))∧ρ 4=.os j∧ρ 6=int ((k:Int)-1)∧H j=some (bI (dl ((bl (zed n)).drop (max k (stN (zed n)))))),fun ρ _=>upN (ρ 6),
   ⟨(bl (zed n)).length,j,Nat.le_refl _,by simp only[go_sem],by simp only[go_sem],by simp only[go_sem],by simp only[go_sem];rw[hs,aQ (by omega)],?_⟩,?_⟩
 · rw[aA,List.drop_of_length_le (by omega)];rfl
 clear hj j;rintro ρ H ⟨k,j,hk,h0,h5,h4,h6,Rj⟩;simp only[go_sem,h0,h5,h4,h6];refine aB (fun hge=>?_) (fun hlt=>?_)
 · have hge:0<k:=by have:=of_decide_eq_true hge;omega
   obtain⟨c,hc⟩:=aW (l:=bl (zed n)) (k:=k-1) (by omega);have ei:((k:Int)-1).toNat=k-1:=by omega
   have hdc:(bl (zed n)).drop (k-1)=c::(bl (zed n)).drop k:=by
     obtain⟨hk2,e⟩:=List.getElem?_eq_some_iff.1 hc;rw[List.drop_eq_getElem_cons hk2,e,show k-1+1=k by omega]
   simp only[go_sem,h0,h5,h4,h6,ei,oK hc];refine⟨⟨by omega,by omega⟩,?_⟩;by_cases hks:k-1<stN (zed n)
   · have hm1 : dZ (zed n) = true := by
       unfold stN at hks;split at hks
       · assumption
       · omega
     have hst1:stN (zed n)=1:=if_pos hm1;have hk1:k=1:=by omega
     subst hk1;have hc45:c=45:=by
       unfold dZ at hm1;cases hb:bl (zed n)with
       | nil=>rw[hb]at hm1;cases hm1
       | cons x r=>
         rw[hb]at hm1 hc;have h1:x=45:=by simpa using hm1
         have h2:x=c:=by simpa using hc
         rw[←h2,h1]
     subst hc45;refine aB (fun hb=>by cases hb) (fun _=>?_);simp only[go_sem,h0,h5,h4,h6];refine⟨⟨0,j,by omega,rfl,rfl,?_⟩,?_⟩
     · rw[Rj,hst1];rfl
     · simp only[Aq];decide
   · have hcd : isD c = true := List.all_eq_true.1 hall c (by
       refine List.mem_of_getElem? (i:=k-1-stN (zed n)) ?_;rw[List.getElem?_drop,show stN (zed n)+(k-1-stN (zed n))=k-1 by omega];exact hc)
     have hc2:=kT.1 hcd;refine aB (fun _=>?_) (fun hb=>?_)
     rotate_left
     · exfalso
       have:c.toNat=45:=by
         have:((c.toNat:Int) != 45)=false:=hb;rw[bne_eq_false_iff_eq]at this;omega
       omega
     simp only[go_sem,h0,h5,h4,h6,ei,oK hc];refine⟨⟨by omega,by omega⟩,?_⟩;have hcw:IntKind.i64.wrap (IntKind.u8.wrap ((c.toNat:Int)-48))=((c.toNat-48:Nat):Int):=by rw[u8w hc2.1 (by omega),aQ (by omega)]
     rw[hcw];refine aX Rj ⟨rfl,rfl⟩ ⟨rfl,trivial⟩ (by simp only[bI,List.length_map,Dj,List.length_drop,List.length_cons,List.length_nil];omega) (fun j' hj'=>?_);simp only[go_sem,h0,h5,h4,h6,X9 (show k≤4611686018427387904 by omega)];refine⟨⟨k-1,j',by omega,rfl,?_,?_⟩,?_⟩
     · rw[show(k:Int)-1-1=((k-1:Nat):Int)-1 by omega]
     · rw[show max k (stN (zed n))=k by omega,show max (k-1) (stN (zed n))=k-1 by omega,hdc,Wu]
       exact nA
     · simp only[Aq];omega
 · have hge:k=0:=by have:=of_decide_eq_false hlt;omega
   subst hge;simp only[go_sem,h5,h4];rw[Nat.max_eq_right (by omega)]at Rj;have hlim:=MT hall;refine PC.useF [j] (.cons _ _ _ _ (.row _ _ _ (by simp only[List.mem_singleton,if_true];exact Rj) (ConvE.refl _)) .nil) (Dg (n:=n.natAbs) hlim (by rw[Dj,List.length_drop];omega) (by rw[ME,←hbd,hY,gI,nN])) ?_;simp only[go_sem,nQ];exact .refl _
def GA(l:List UInt8):Row:=⟨5,1,l.map fun c=>[.v (.int .u8 (c.toNat:Nat))]⟩
theorem Rb(l:List UInt8):oZ (l.map fun c=>[.v (.int .u8 (c.toNat:Nat))])=some (l.map fun c=>((c.toNat:Nat):Int)):=by
 induction l with
 | nil=>rfl
 | cons c l ih=>simp only[List.map_cons,oZ,ih,Option.map_some]
theorem Pd(l:List UInt8):bl (strOfNums (l.map fun c=>((c.toNat:Nat):Int)))=l:=by
 rw[strOfNums,iO,List.map_map]
 conv=>rhs;rw[←List.map_id l]
 refine List.map_congr_left fun c _=>?_
 simp
theorem O3(m:Bool)(l:List Nat)(hl:Lim 10 l)(h:l.length≤1048576):PC Tryz.prog 159 [boo m,.sl (l.map eP)] (str (zed (sg m (ofL 10 l)))):=by
 have htr:=Dg hl (by omega) rfl;have hlim:=bW (b:=10) (by decide) (ofL 10 l);have hll:(aM 10 (ofL 10 l)).length≤l.length:=gE (by decide) (iT (by decide) hl);have hval:=cA (b:=10) (by decide) (ofL 10 l);refine PC.body (c:=Tryz.f159.body.getD .skip) (fun t=>t == 5||t == 32) mixed Tryz.func159 rfl (by kernel_rfl) ?_;unfold Tryz.f159;simp only[Option.getD_some];simp only[go_sem];refine PC.use htr ?_;generalize ofL 10 l=n at *;simp only[go_sem,List.length_map];refine aB (fun hb=>?_) (fun hb=>?_)
 · have h0 : n = 0 := by
     have:(aM 10 n).length=0:=by rw[beq_iff_eq]at hb;omega
     exact(mO (by decide)).1 (List.length_eq_zero_iff.1 this)
   simp only[go_sem];refine cS ?_;rw[h0,D9];unfold sg;split <;> exact(cX 0).symm
 have h0:n≠0:=fun e=>by rw[e,cY]at hb;cases hb
 simp only[go_sem];refine aL fun j hj=>?_
 simp only[go_sem];refine aU (fun ρ' H'=>∃j,ρ' 1=dg n∧ρ' 5=.os j∧H' j=some (GA (if m=true then[45]else[]))) ?_ fun K hK=>aB (fun hb=>?_) (fun hb=>?_)
 rotate_left
 · simp only[go_sem]
   refine aX (aA _ _ _) ⟨rfl,rfl⟩ ⟨rfl,trivial⟩ (by simp) (fun j' hj'=>?_);simp only[go_sem];exact hK _ _ ⟨j',by simp only[go_sem],by simp only[go_sem],by rw[aA,if_pos hb];rfl⟩
 · simp only[go_sem]
   exact hK _ _ ⟨j,by simp only[go_sem],by simp only[go_sem],by rw[aA,if_neg (by rw[hb];simp)];rfl⟩
 clear hj j;rintro ρ H ⟨j,h1,h5,Rj⟩;simp only[go_sem,h1,h5,List.length_map];refine⟨fun ρ H=>∃(k j:Nat),k≤(aM 10 n).length∧ρ 1=dg n∧ρ 5=.os j∧ρ 6=int ((k:Int)-1)∧H j=some (GA ((if m=true then[45]else[])++txt ((aM 10 n).drop k))),fun ρ _=>upN (ρ 6),
   ⟨(aM 10 n).length,j,Nat.le_refl _,by simp only[go_sem,h1],by simp only[go_sem,h5],by simp only[go_sem,h1,List.length_map];rw[aQ (by omega)],by rw[List.drop_length];simpa[txt]using Rj⟩,?_⟩
 clear h1 h5 Rj j;rintro ρ H ⟨k,j,hk,h1,h5,h6,Rj⟩;simp only[go_sem,h1,h5,h6];refine aB (fun hge=>?_) (fun hlt=>?_)
 · have hge:0<k:=by have:=of_decide_eq_true hge;omega
   obtain⟨x,hx⟩:=aW (l:=aM 10 n) (k:=k-1) (by omega);have ei:((k:Int)-1).toNat=k-1:=by omega
   have hxl:x<10:=hlim x (List.mem_of_getElem? hx);have hdc:(aM 10 n).drop (k-1)=x::(aM 10 n).drop k:=by
     obtain⟨hk2,e⟩:=List.getElem?_eq_some_iff.1 hx;rw[List.drop_eq_getElem_cons hk2,e,show k-1+1=k by omega]
   have b1:0≤(k:Int)-1∧(k:Int)-1<((aM 10 n).length:Nat):=by omega
   simp only[go_sem,h1,h5,h6,ei,aF hx,b1,List.length_map];have ew:IntKind.u8.wrap (IntKind.i64.wrap (48+(x:Int)))=(((UInt8.ofNat (48+x)).toNat:Nat):Int):=by
     rw[lK hxl,show IntKind.i64.wrap (48+(x:Int))=48+(x:Int)from aQ (by omega),show IntKind.u8.wrap (48+(x:Int))=(48+(x:Int))%256 from rfl];omega
   rw[ew];have hel:∀(p q:List UInt8),(GA (p++q)).es.length=p.length+q.length:=fun p q=>by simp[GA]
   refine aX Rj ⟨rfl,rfl⟩ ⟨rfl,trivial⟩ ?_ (fun j' hj'=>?_)
   · rw[hel]
     have h2:(if m=true then[45]else[]:List UInt8).length≤1:=by split <;> simp
     simp only[txt,List.length_reverse,List.length_map,List.length_drop,List.length_cons,List.length_nil];omega
   simp only[go_sem,h1,h5,h6,X9 (show k≤4611686018427387904 by omega)];refine⟨⟨k-1,j',by omega,rfl,?_,?_⟩,?_⟩
   · rw[show(k:Int)-1-1=((k-1:Nat):Int)-1 by omega]
   · rw[aA,hdc]
     simp only[GA,txt,List.map_cons,List.reverse_cons,List.map_append,List.map_nil,List.append_assoc]
   · simp only[Aq];omega
 · have hge:k=0:=by have:=of_decide_eq_false hlt;omega
   subst hge;simp only[go_sem,h5];refine wQ (by simp only[go_sem,h5]) Rj fun Hr _ _=>?_
   simp only[go_sem,GA,Rb];refine cS (jJ ?_);rw[Pd,AT h0];unfold sg;cases m with
   | true=>rw[if_pos rfl,if_pos rfl,AD (by omega),iO];rfl
   | false=>rw[if_neg (by simp),if_neg (by simp),cX,gI];rfl
end Go.Proofs.YtdlijlecpopadaaGreatDoor.Nu
end

section
set_option linter.unusedSimpArgs false
set_option linter.unusedVariables false
namespace Go.Proofs.YtdlijlecpopadaaGreatDoor.Nu
open Go.Aw Go.Aw.D Go.Proofs Ty Go.Nu
set_option maxRecDepth 100000
theorem O4{l:List Nat}(h:Lim 10 l)(k:Nat):ofL 10 (l.take k)<10^k:=by
 have h1:=iT (b:=10) (by decide) (h.take k);have h2:10^(l.take k).length≤10^k:=Nat.pow_le_pow_right (by decide) (by rw[List.length_take];omega);omega
theorem RQ{x y:List Nat}(hx:Lim 10 x)(hy:Lim 10 y)(k:Nat):gD (ofL 10 (x.take (k+1))) (ofL 10 (y.take (k+1)))=if x.getD k 0<y.getD k 0 then -1 else if y.getD k 0<x.getD k 0 then 1 else gD (ofL 10 (x.take k)) (ofL 10 (y.take k)):=by
 have h1:=O4 hx k;have h2:=O4 hy k;rw[pW,pW];generalize ofL 10 (x.take k)=p at *;generalize ofL 10 (y.take k)=q at *;generalize x.getD k 0=a at *;generalize y.getD k 0=b at *;generalize 10^k=T at *;split
 · rename_i h
   have:T*(a+1)≤T*b:=Nat.mul_le_mul_left _ h;rw[Nat.mul_add]at this;rw[iD (by omega)]
 · split
   · rename_i h
     have:T*(b+1)≤T*a:=Nat.mul_le_mul_left _ h;rw[Nat.mul_add]at this;rw[iF (by omega)]
   · have:a=b:=by omega
     subst this;unfold gD;have c1:(((p+T*a:Nat):Int)<((q+T*a:Nat):Int))↔((p:Int)<(q:Int)):=by omega
     have c2:(((q+T*a:Nat):Int)<((p+T*a:Nat):Int))↔((q:Int)<(p:Int)):=by omega
     simp only[c1,c2]
theorem uH(m n:Nat)(hm:(aM 10 m).length≤1048576)(hn:(aM 10 n).length≤1048576):PC Tryz.prog 314 [dg m,dg n] (int (gD m n)):=by
 have om:=cA (b:=10) (by decide) m;have on:=cA (b:=10) (by decide) n;have lm:=bW (b:=10) (by decide) m;have ln:=bW (b:=10) (by decide) n;simp only[dg];generalize aM 10 m=x at *;generalize aM 10 n=y at *;have hmax:kX (x.length:Int) (y.length:Int)=((max x.length y.length:Nat):Int):=by unfold kX;split <;> omega
 refine PC.body (c:=Tryz.f314.body.getD .skip) (fun _=>false) mixed Tryz.func314 rfl (by kernel_rfl) ?_;unfold Tryz.f314;simp only[Option.getD_some];simp only[go_sem];simp only[hmax];refine⟨fun ρ _=>∃k:Nat,k≤max x.length y.length∧ρ 0=.sl (x.map eP)∧ρ 1=.sl (y.map eP)∧ρ 5=int ((k:Int)-1)∧gD m n=gD (ofL 10 (x.take k)) (ofL 10 (y.take k)),fun ρ _=>upN (ρ 5),
   ⟨max x.length y.length,Nat.le_refl _,by simp only[go_sem],by simp only[go_sem],by simp only[go_sem];rw[aQ (by omega)],by rw[List.take_of_length_le (by omega),List.take_of_length_le (by omega),om,on]⟩,?_⟩
 rintro ρ H ⟨k,hk,h0,h1,h5,hv⟩;simp only[go_sem,h0,h1,h5];refine aB (fun hge=>?_) (fun hlt=>?_)
 · obtain⟨i,rfl⟩:∃i,k=i+1:=⟨k-1,by have:=of_decide_eq_true hge;omega⟩
   have ei:((i+1:Nat):Int)-1=(i:Int):=by omega
   rw[ei]at h5;rw[RQ lm ln i]at hv;simp only[go_sem,h0,h1,h5,ei];refine PC.use (oX x i (by omega) (by omega)) ?_;simp only[go_sem,h0,h1,h5];refine PC.use (oX y i (by omega) (by omega)) ?_;simp only[go_sem,h0,h1,h5];refine aB (fun hb=>?_) (fun hb=>?_)
   · have hb:=ltB hb
     simp only[go_sem];exact cI (by rw[hv,if_pos hb])
   have hb:¬x.getD i 0<y.getD i 0:=by simpa using hb
   simp only[go_sem,h0,h1,h5];refine PC.use (oX x i (by omega) (by omega)) ?_;simp only[go_sem,h0,h1,h5];refine PC.use (oX y i (by omega) (by omega)) ?_;simp only[go_sem,h0,h1,h5];refine aB (fun hb2=>?_) (fun hb2=>?_)
   · have hb2:y.getD i 0<x.getD i 0:=by simpa using hb2
     simp only[go_sem];exact cI (by rw[hv,if_neg hb,if_pos hb2])
   have hb2:¬y.getD i 0<x.getD i 0:=by simpa using hb2
   simp only[go_sem,h0,h1,h5,show IntKind.i64.wrap ((i:Int)-1)=(i:Int)-1 from aQ (by omega)];exact⟨⟨i,by omega,rfl,by rw[hv,if_neg hb,if_neg hb2]⟩,by simp only[Aq];omega⟩
 · have hge:k=0:=by have:=of_decide_eq_false hlt;omega
   subst hge;simp only[go_sem];exact cI (by rw[hv];rfl)
theorem Oe(m n:Nat)(hm:(aM 10 m).length≤1048576)(hn:(aM 10 n).length≤1048576):PC Tryz.prog 312 [dg m,dg n] (dg (m+n)):=by
 have om:=cA (b:=10) (by decide) m;have on:=cA (b:=10) (by decide) n;have lm:=bW (b:=10) (by decide) m;have ln:=bW (b:=10) (by decide) n;have htr:∀l:List Nat,Lim 10 l→l.length≤4611686018427387904→ofL 10 l=m+n→PC Tryz.prog 197 [.sl (l.map eP)] (dg (m+n)):=fun l h1 h2 h3=>Dg h1 h2 h3
 simp only[dg]at htr ⊢;generalize aM 10 m=x at *;generalize aM 10 n=y at *;generalize aM 10 (m+n)=z at *;refine PC.body (c:=Tryz.f312.body.getD .skip) (fun t=>t == 5) mixed Tryz.func312 rfl (by kernel_rfl) ?_;unfold Tryz.f312;simp only[Option.getD_some];simp only[go_sem];refine aL fun j hj=>?_
 simp only[go_sem];refine⟨fun ρ H=>∃(i c j:Nat) (o:List Nat),i≤max x.length y.length+1∧ρ 0=.sl (x.map eP)∧ρ 1=.sl (y.map eP)∧ρ 5=.os j∧ρ 6=int c∧ρ 7=int i∧H j=some (bI o)∧Lim 10 o∧o.length=i∧c≤1∧(i=max x.length y.length+1→c=0)∧ofL 10 o+10^i*c=ofL 10 (x.take i)+ofL 10 (y.take i),fun ρ _=>max x.length y.length+1-bE (ρ 7),
   ⟨0,0,j,[],by omega,by simp only[go_sem],by simp only[go_sem],by simp only[go_sem],by simp only[go_sem];rfl,by simp only[go_sem];rfl,xE,by simp[Lim],rfl,by omega,by omega,by simp[ofL]⟩,?_⟩
 clear hj j;rintro ρ H ⟨i,c,j,o,hi,h0,h1,h5,h6,h7,Rj,ho,hol,hc,hcz,hv⟩;simp only[go_sem,h0,h1,h5,h6,h7];refine aB (fun hb=>?_) (fun hb=>?_)
 · have hb:i<x.length∨i<y.length∨0<c:=by simpa[or_assoc]using hb
   have hlt:i<max x.length y.length+1:=by
     rcases Nat.lt_or_ge i (max x.length y.length+1)with h|h
     · exact h
     · have:=hcz (by omega)
       omega
   have hst:=II (b:=10) (by decide) (x:=x) (y:=y) hol hv;have hxd:x.getD i 0<10:=lm.getD (by decide) i;have hyd:y.getD i 0<10:=ln.getD (by decide) i;have hcz2:i+1=max x.length y.length+1→(x.getD i 0+y.getD i 0+c)/10=0:=fun e=>by
     have e1:x.getD i 0=0:=by simp only[List.getD,List.getElem?_eq_none (show x.length≤i by omega),Option.getD_none]
     have e2:y.getD i 0=0:=by simp only[List.getD,List.getElem?_eq_none (show y.length≤i by omega),Option.getD_none]
     rw[e1,e2];omega
   simp only[go_sem,h0,h1,h5,h6,h7];refine PC.use (oX x i (by omega) (by omega)) ?_;simp only[go_sem,h0,h1,h5,h6,h7];refine PC.use (oX y i (by omega) (by omega)) ?_;generalize x.getD i 0=a at *;generalize y.getD i 0=b at *;have e1:IntKind.i64.wrap (IntKind.i64.wrap ((a:Int)+(b:Int))+(c:Int))=((a+b+c:Nat):Int):=by
     rw[show IntKind.i64.wrap ((a:Int)+(b:Int))=(a:Int)+b from aQ (by omega),aQ (by omega)];omega
   simp only[go_sem,h0,h1,h5,h6,h7,e1];have e2:(((a+b+c:Nat):Int)).tmod 10=(((a+b+c)%10:Nat):Int):=rfl;have e3:(((a+b+c:Nat):Int)).tdiv 10=(((a+b+c)/10:Nat):Int):=rfl;rw[e2];refine⟨by decide,aX Rj ⟨rfl,rfl⟩ ⟨rfl,trivial⟩ (by simp only[bI,List.length_map,List.length_cons,List.length_nil];omega) (fun j' hj'=>?_)⟩;simp only[go_sem,h0,h1,h5,h6,h7,e3,bA (show i≤4611686018427387904 by omega)];rw[show IntKind.i64.wrap (((a+b+c)/10:Nat):Int)=(((a+b+c)/10:Nat):Int)from aQ (by omega)];exact⟨by decide,⟨i+1,_,j',_,hlt,rfl,rfl,rfl,nA,ho.snoc (Nat.mod_lt _ (by decide)),by simp[hol],by omega,hcz2,hst⟩,by simp only[aH];omega⟩
 · have hb : x.length ≤ i ∧ y.length ≤ i ∧ c = 0 := by
     simp at hb;omega
   simp only[go_sem,h5];rw[hb.2.2,Nat.mul_zero,Nat.add_zero,List.take_of_length_le hb.1,List.take_of_length_le hb.2.1,om,on]at hv;refine PC.useF [j] (.cons _ _ _ _ (.row _ _ _ (by simp only[List.mem_singleton,if_true];exact Rj) (ConvE.refl _)) .nil) (htr o ho (by omega) hv) ?_;simp only[go_sem];exact .refl _
theorem Ai(m n:Nat)(hm:(aM 10 m).length≤1048576)(hnm:n≤m):PC Tryz.prog 313 [dg m,dg n] (dg (m-n)):=by
 have om:=cA (b:=10) (by decide) m;have on:=cA (b:=10) (by decide) n;have lm:=bW (b:=10) (by decide) m;have ln:=bW (b:=10) (by decide) n;have hyl:=bZ (b:=10) (by decide) hnm;have htr:∀l:List Nat,Lim 10 l→l.length≤4611686018427387904→ofL 10 l=m-n→PC Tryz.prog 197 [.sl (l.map eP)] (dg (m-n)):=fun l h1 h2 h3=>Dg h1 h2 h3
 simp only[dg]at htr ⊢;generalize aM 10 m=x at *;generalize aM 10 n=y at *;generalize aM 10 (m-n)=z at *;refine PC.body (c:=Tryz.f313.body.getD .skip) (fun t=>t == 5) mixed Tryz.func313 rfl (by kernel_rfl) ?_;unfold Tryz.f313;simp only[Option.getD_some];simp only[go_sem];refine aL fun j hj=>?_
 simp only[go_sem];refine⟨fun ρ H=>∃(i j c:Nat) (o:List Nat),i≤x.length∧ρ 0=.sl (x.map eP)∧ρ 1=.sl (y.map eP)∧ρ 5=.os j∧ρ 6=int c∧ρ 7=int i∧H j=some (bI o)∧Lim 10 o∧o.length=i∧c≤1∧ofL 10 o+ofL 10 (y.take i)=ofL 10 (x.take i)+10^i*c,fun ρ _=>x.length-bE (ρ 7),
   ⟨0,j,0,[],Nat.zero_le _,by simp only[go_sem],by simp only[go_sem],by simp only[go_sem],by simp only[go_sem];rfl,by simp only[go_sem];rfl,xE,by simp[Lim],rfl,by omega,by simp[ofL]⟩,?_⟩
 clear hj j;rintro ρ H ⟨i,j,c,o,hi,h0,h1,h5,h6,h7,Rj,ho,hol,hc,hv⟩;simp only[go_sem,h0,h1,h5,h6,h7,List.length_map];refine aB (fun hlt=>?_) (fun hge=>?_)
 · have hlt:=ltB hlt
   obtain⟨a,ha⟩:=aW hlt;have hag:x.getD i 0=a:=by simp[List.getD,ha]
   have b1:=inB hlt;have hab:a<10:=lm a (List.mem_of_getElem? ha);have hyb:y.getD i 0<10:=ln.getD (by decide) i;simp only[go_sem,h0,h1,h5,h6,h7];refine fQ (by rfl) (by kernel_rfl) ?_;simp only[go_sem,h0,h1,h5,h6,h7,aF ha,b1,List.length_map];refine⟨_,(oX y i (by omega) (by omega)).q rfl,?_⟩;have hd2:=tM (b:=10) hab hyb hc;have hst:=yM (b:=10) (x:=x) (y:=y) (c':=if a<y.getD i 0+c then 1 else 0) (d:=if a<y.getD i 0+c then a+10-(y.getD i 0+c)else a-(y.getD i 0+c)) hol hv (by rw[hag];exact hd2.1);generalize y.getD i 0=yi at *;have e1:IntKind.i64.wrap (IntKind.i64.wrap ((a:Int)-(yi:Int))-(c:Int))=(a:Int)-yi-c:=by
     rw[show IntKind.i64.wrap ((a:Int)-(yi:Int))=(a:Int)-yi from aQ (by omega),aQ (by omega)]
   simp only[go_sem,h0,h1,h5,h6,h7,e1];refine aU (fun ρ' H'=>ρ' 0=.sl (x.map eP)∧ρ' 1=.sl (y.map eP)∧ρ' 5=.os j∧ρ' 7=int i∧H' j=some (bI o)∧ρ' 8=int (if a<yi+c then a+10-(yi+c)else a-(yi+c):Nat)∧ρ' 6=int (if a<yi+c then 1 else 0:Nat)) ?_ fun K hK=>aB (fun hb=>?_) (fun hb=>?_)
   rotate_left
   · have hb:a<yi+c:=by simp at hb;omega
     have e2:IntKind.i64.wrap ((a:Int)-yi-c+10)=((a+10-(yi+c):Nat):Int):=by rw[aQ (by omega)];omega
     simp only[go_sem,h0,h1,h5,h6,h7,e2];exact hK _ _ ⟨by simp only[go_sem,h0],by simp only[go_sem,h1],by simp only[go_sem,h5],by simp only[go_sem,h7],Rj,by simp only[go_sem,if_pos hb],by simp only[go_sem,if_pos hb];rfl⟩
   · have hb:¬a<yi+c:=by simp at hb;omega
     simp only[go_sem,h0,h1,h5,h6,h7];refine hK _ _ ⟨by simp only[go_sem,h0],by simp only[go_sem,h1],by simp only[go_sem,h5],by simp only[go_sem,h7],Rj,?_,by simp only[go_sem,if_neg hb];rfl⟩;simp only[go_sem,if_neg hb]
     congr 2
     omega
   clear h0 h1 h5 h6 h7 Rj;rintro ρ H ⟨h0,h1,h5,h7,Rj,h8,h6⟩;simp only[go_sem,h0,h1,h5,h6,h7,h8];refine aX Rj ⟨rfl,rfl⟩ ⟨rfl,trivial⟩ (by simp only[bI,List.length_map,List.length_cons,List.length_nil];omega) (fun j' hj'=>?_);simp only[go_sem,h0,h1,h5,h6,h7,bA (show i≤4611686018427387904 by omega)];exact⟨⟨i+1,j',_,_,hlt,rfl,rfl,rfl,nA,ho.snoc hd2.2,by simp[hol],by split <;> omega,hst⟩,by simp only[aH];omega⟩
 · have hge:=geB hi hge
   subst hge;simp only[go_sem,h5];obtain⟨_,hV⟩:=AW (b:=10) (by decide) ho lm hol hyl (by omega) hc hv;refine PC.useF [j] (.cons _ _ _ _ (.row _ _ _ (by simp only[List.mem_singleton,if_true];exact Rj) (ConvE.refl _)) .nil) (htr o ho (by omega) (hV.trans (by rw[om,on]))) ?_;simp only[go_sem];exact .refl _
end Go.Proofs.YtdlijlecpopadaaGreatDoor.Nu
end
