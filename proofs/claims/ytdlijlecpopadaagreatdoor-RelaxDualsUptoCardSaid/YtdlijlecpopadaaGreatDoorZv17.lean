/- Texts joined by a program: NuU, NuV, NuW, NuX, NuY, NuZ, NuZa, NuZb, NuQ, NuZc. -/
import Derived.Test.YtdlijlecpopadaaGreatDoorZv16
set_option linter.unusedSimpArgs false
set_option linter.unusedVariables false
set_option maxRecDepth 100000
section
namespace Go.Proofs.YtdlijlecpopadaaGreatDoor.Nu
open Go.Aw Go.Aw.D Go.Proofs Ty Go.Nu
theorem I7{p q:Nat}(h:p≤q):(dec p).size≤(dec q).size:=by
 rw[eY,eY];rcases Nat.lt_or_ge (Lib.decDigits q).length (Lib.decDigits p).length with h1|h1
 · exfalso
   have h2:=(eW (n:=q) (k:=(Lib.decDigits q).length) (fW q)).1 (Nat.le_refl _);have:=(eW (n:=p) (k:=(Lib.decDigits q).length) (fW q)).2 (by omega);omega
 · exact h1
theorem QN{d:Nat}(hd:d<10)(o:List Nat):Lib.decDigits d++txt o=txt (o++[d]):=by
 rw[Lib.decDigits_one hd];simp[txt]
theorem vS(n:Nat):(bl (dec n)).all isD=true:=by rw[fS];exact qC n
theorem Rn(n:Nat):ofL 10 (dl (bl (dec n)))=n:=by rw[KR,fS,mA]
theorem TQ(m n:Nat)(h:n≤m)(hm:(dec m).size≤1048576):PC Tryz.prog 200 [str (dec m),str (dec n)] (str (dec (m-n))):=by
 have hmono:=I7 h;have dm:=vS m;have dn:=vS n;have vm:=Rn m;have vn:=Rn n;have lm:=Mc dm;have ln:=Mc dn;have zm:=bV (dec m);have zn:=bV (dec n);have hpos:0<(dec m).size:=by rw[eY];exact fW m
 have xl:(dl (bl (dec m))).length=(dec m).size:=by rw[Ch];omega
 have yl:(dl (bl (dec n))).length=(dec n).size:=by rw[Ch];omega
 refine PC.body (c:=Tryz.f200.body.getD .skip) (fun _=>false) mixed Tryz.func200 rfl (by kernel_rfl) ?_;unfold Tryz.f200;simp only[Option.getD_some];simp only[go_sem];refine⟨fun ρ _=>∃(i c:Nat) (t:ByteArray) (o:List Nat),i≤(dec m).size∧ρ 0=str (dec m)∧ρ 1=str (dec n)∧ρ 5=str t∧ρ 6=int c∧ρ 7=int i∧bl t=txt o∧Lim 10 o∧o.length=i∧c≤1∧ofL 10 o+ofL 10 ((dl (bl (dec n))).take i)=ofL 10 ((dl (bl (dec m))).take i)+10^i*c,fun ρ _=>(dec m).size-bQ (ρ 7),
   ⟨0,0,emp,[],Nat.zero_le _,rfl,rfl,rfl,rfl,rfl,rfl,by simp[Lim],rfl,by omega,by simp[ofL]⟩,?_⟩
 rintro ρ H ⟨i,c,t,o,hi,h0,h1,h5,h6,h7,hto,ho,hol,hc,hv⟩;have ht:t.size=i:=by rw[←bV,hto];simp[txt,hol]
 simp only[go_sem,h0,h1,h5,h6,h7];refine aA (fun hlt=>?_) (fun hge=>?_)
 · have hlt:=ltB hlt
   have hab:(dl (bl (dec m))).getD i 0<10:=lm.getD (by omega) i;have hyb:(dl (bl (dec n))).getD i 0<10:=ln.getD (by omega) i;have hd1:=AH (b:=10) hab hyb hc;have hd2:=xP (b:=10) hab hyb hc;have hst:=Bs (b:=10) (x:=dl (bl (dec m))) (y:=dl (bl (dec n))) (c':=if(dl (bl (dec m))).getD i 0<(dl (bl (dec n))).getD i 0+c then 1 else 0) (d:=if(dl (bl (dec m))).getD i 0<(dl (bl (dec n))).getD i 0+c then(dl (bl (dec m))).getD i 0+10-((dl (bl (dec n))).getD i 0+c)else(dl (bl (dec m))).getD i 0-((dl (bl (dec n))).getD i 0+c)) hol hv hd2.1;simp only[go_sem,h0,h1,h5,h6,h7];refine PC.use (Hw (dec m) dm i (by omega) (by omega)) ?_;simp only[go_sem,h0,h1,h5,h6,h7];refine PC.use (Hw (dec n) dn i (by omega) (by omega)) ?_;generalize (dl (bl (dec m))).getD i 0=a at *;generalize (dl (bl (dec n))).getD i 0=yi at *;have e1:IntKind.i64.wrap (IntKind.i64.wrap ((a:Int)-(yi:Int))-(c:Int))=(a:Int)-yi-c:=by
     rw[show IntKind.i64.wrap ((a:Int)-(yi:Int))=(a:Int)-yi from aT (by omega),aT (by omega)]
   simp only[go_sem,h0,h1,h5,h6,h7,e1];refine bD (fun ρ' H'=>ρ' 0=str (dec m)∧ρ' 1=str (dec n)∧ρ' 5=str t∧ρ' 7=int i∧ρ' 8=int (if a<yi+c then a+10-(yi+c)else a-(yi+c):Nat)∧ρ' 6=int (if a<yi+c then 1 else 0:Nat)) ?_ fun K hK=>aA (fun hb=>?_) (fun hb=>?_)
   rotate_left
   · have hb:a<yi+c:=by simp at hb;omega
     have e2:IntKind.i64.wrap ((a:Int)-yi-c+10)=((a+10-(yi+c):Nat):Int):=by rw[aT (by omega)];omega
     simp only[go_sem,h0,h1,h5,h6,h7,e2];exact hK _ _ ⟨by simp only[go_sem,h0],by simp only[go_sem,h1],by simp only[go_sem,h5],by simp only[go_sem,h7],by simp only[go_sem,if_pos hb],by simp only[go_sem,if_pos hb];rfl⟩
   · have hb:¬a<yi+c:=by simp at hb;omega
     simp only[go_sem,h0,h1,h5,h6,h7];refine hK _ _ ⟨by simp only[go_sem,h0],by simp only[go_sem,h1],by simp only[go_sem,h5],by simp only[go_sem,h7],?_,by simp only[go_sem,if_neg hb];rfl⟩;simp only[go_sem,if_neg hb]
     congr 2
     omega
   clear h0 h1 h5 h6 h7;rintro ρ H ⟨h0,h1,h5,h7,h8,h6⟩;simp only[go_sem,h0,h1,h5,h6,h7,h8];generalize (if a<yi+c then a+10-(yi+c)else a-(yi+c))=d at *;refine PC.use (yN d hd2.2) ?_;have hds:(dec d).size=1:=by rw[eY,uL];exact hd2.2
   simp only[go_sem,h0,h1,h5,h6,h7,h8,bG (show i≤4611686018427387904 by omega)];refine⟨by show(((dec d).size+t.size:Nat):Int)≤9223372036854775807;omega,?_⟩;exact⟨⟨i+1,_,_,_,hlt,rfl,rfl,rfl,by rw[kF,fS,hto,QN hd2.2],ho.snoc hd2.2,by simp[hol],by split <;> omega,hst⟩,by simp only[aI];omega⟩
 · have hge:=geB hi hge
   simp only[go_sem,h5];obtain⟨_,hV⟩:=Ef (b:=10) (y:=dl (bl (dec n))) (by decide) ho lm (by omega) (by omega) (by omega) hc (by rw[xl,←hge];exact hv);refine PC.use (FJ t (by omega) (fun e=>by rw[←bV,e]at ht;simp at ht;omega) (by rw[hto];exact Uh ho)) ?_;simp only[go_sem];refine cS ?_;unfold dJ;rw[hto,To ho,hV,vm,vn]
theorem U8{s:ByteArray}{k:Nat}{c:UInt8}(h:(bl s)[k]?=some c):bl (s.extract k (k+1))=[c]:=by
 rw[eJ,cN h,List.drop_append_of_le_length (by simp;have:=(List.getElem?_eq_some_iff.1 h).1;omega)];simp
theorem Ti(m n:Nat):PT (dec m) (dec n)=iC m n:=by unfold PT;rw[jD,jD,bP,bP];rfl
theorem U5{m n:Nat}:decide (iC m n≥0)=decide (n≤m):=by
 unfold iC;rw[decide_eq_decide];split
 · simp;omega
 · split <;> simp <;> omega
theorem Qm(r:Nat){c:UInt8}(hc:isD c=true)(s:ByteArray)(hs:bl s=[c]):(bl (dec r++s)).all isD=true∧bl (dec r++s)≠[]∧dJ (dec r++s)=10*r+(c.toNat-48):=by
 refine⟨?_,?_,?_⟩
 · rw[kF,hs,List.all_append,vS]
   simp[hc]
 · rw[kF,hs];simp
 · unfold dJ
   rw[kF,hs,kH,fS,mA]
theorem Tk{K M R:Nat}(hM:M=10^K)(hR:R<10*M):(dec R).size≤K+1:=by
 subst hM;rw[eY];exact(eW (k:=K+1) (by omega)).2 (by rw[Nat.pow_succ,Nat.mul_comm];exact hR)
theorem W6:∃K,K=4096∧cC=10^K:=⟨PF,rfl,by unfold cC;rfl⟩
theorem UG{R:Nat}(hR:R<10*cC):(dec R).size≤4097:=by
 obtain⟨K,hK,e⟩:=W6;have:=Tk e hR;omega
def XD:AV→Nat
 | .v (.string s)=>dJ s
 | _=>0
theorem yH(n:Nat):XD (str (dec n))=n:=by show dJ (dec n)=n;exact bP n
theorem WE(a b:ByteArray)(ha:a.size≤1048576)(hb:b.size≤1048576):PC Tryz.prog 161 [str a,str b] (.tup [str (yX a b).1,str (yX a b).2.1,int (yX a b).2.2]):=by
 refine PC.body (c:=Tryz.f161.body.getD .skip) (fun _=>false) mixed Tryz.func161 rfl (by kernel_rfl) ?_;unfold Tryz.f161;simp only[Option.getD_some];simp only[go_sem];refine PC.use (IA a b ha hb) ?_;simp only[go_sem];refine aA (fun h=>?_) (fun h=>?_)
 · have h:gX a b≠0:=by simpa using h
   simp only[go_sem];rw[show yX a b=(emp,emp,gX a b)from if_neg h];exact .refl _
 have h:gX a b=0:=by simpa using h
 obtain⟨m,n,rfl,rfl,hm,hn⟩:=nB h;rw[show yX (dec m) (dec n)=if n=0 then(emp,emp,10)else(dec (m/n),dec (m%n),0)by unfold yX;rw[if_pos h,bP,bP]];simp only[go_sem,nM];refine aA (fun h0=>?_) (fun h0=>?_)
 · have h0:n=0:=oB.1 (lC.1 h0)
   simp only[go_sem];rw[if_pos h0];exact .refl _
 have h0:n≠0:=fun e=>mT.1 h0 (by rw[e])
 rw[if_neg h0];have zm:=bV (dec m);have dm:=vS m;have hpos:0<(dec m).size:=by rw[eY];exact fW m
 simp only[go_sem];refine⟨fun ρ _=>∃(k r:Nat) (q:ByteArray),k≤(dec m).size∧ρ 0=str (dec m)∧ρ 1=str (dec n)∧ρ 8=str q∧ρ 9=str (dec r)∧ρ 10=int k∧q.size=k∧(bl q).all isD=true∧r<n∧fJ ((bl (dec m)).take k)=fJ (bl q)*n+r,fun ρ _=>(dec m).size-bQ (ρ 10),
   ⟨0,0,emp,Nat.zero_le _,by simp only[go_sem],by simp only[go_sem],by simp only[go_sem];rfl,by simp only[go_sem];rw[CS],by simp only[go_sem];rfl,rfl,rfl,by omega,by simp[fJ,W7]⟩,?_⟩
 rintro ρ H ⟨k,r,q,hk,h0',h1,h8,h9,h10,hq,hqd,hr,hv⟩;simp only[go_sem,h0',h1,h8,h9,h10];refine aA (fun hlt=>?_) (fun hge=>?_)
 · have hlt:=ltB hlt
   obtain⟨c,hc⟩:=bC (l:=bl (dec m)) (k:=k) (by omega);have hcd:=List.all_eq_true.1 dm c (List.mem_of_getElem? hc);have hc1:=U8 hc;obtain⟨d1,d2,d3⟩:=Qm r hcd _ hc1;have hc2:=jT.1 hcd;have hrs:=dF (Nat.lt_trans hr hn);have hes:((dec m).extract k (k+1)).size=1:=by rw[←bV,hc1];rfl
   simp only[go_sem,h0',h1,h8,h9,h10,bG (show k≤4611686018427387904 by omega),Int.toNat_natCast];refine⟨⟨by omega,by omega,by omega⟩,by show(((dec r).size+((dec m).extract k (k+1)).size:Nat):Int)≤9223372036854775807;omega,?_⟩;have hrs2:=(fX r).2 (Nat.lt_trans hr hn);refine PC.use (FJ _ (by rw[ByteArray.size_append];omega) d2 d1) ?_;rw[d3];generalize hR:10*r+(c.toNat-48)=R;have hRn:R<10*n:=by omega
   have hRs:=UG (show R<10*cC by omega);simp only[go_sem,h0',h1,h8,h10];refine⟨fun ρ _=>∃(d r':Nat),ρ 0=str (dec m)∧ρ 1=str (dec n)∧ρ 8=str q∧ρ 10=int k∧ρ 9=str (dec r')∧ρ 11=int d∧d*n+r'=R,fun ρ _=>XD (ρ 9),
     ⟨0,R,by simp only[go_sem,h0'],by simp only[go_sem,h1],by simp only[go_sem,h8],by simp only[go_sem,h10],by simp only[go_sem],by simp only[go_sem];rfl,by omega⟩,?_⟩
   clear h0' h1 h8 h9 h10;rintro ρ H ⟨d,r',h0',h1,h8,h10,h9,h11,hd⟩;have hr's:=I7 (show r'≤R by omega);simp only[go_sem,h0',h1,h8,h9,h10,h11];refine PC.use (KN (dec r') (dec n) (by omega) (dF hn)) ?_;rw[Ti];simp only[go_sem,h0',h1,h8,h9,h10,h11,U5];have hd10:d<10:=by
     rcases Nat.lt_or_ge d 10 with h|h
     · exact h
     · have:=Nat.mul_le_mul_right n h
       omega
   have e0:∀{x y:Nat},decide ((y:Int)≤(x:Int))=decide (y≤x):=fun {x y}=>by rw[decide_eq_decide];omega
   refine aA (fun hge=>?_) (fun hlt2=>?_)
   · have hge:n≤r':=by have:=of_decide_eq_true hge;omega
     simp only[go_sem,h0',h1,h8,h9,h10,h11];refine PC.use (TQ r' n hge (by omega)) ?_;simp only[go_sem,h0',h1,h8,h9,h10,h11,bG (show d≤4611686018427387904 by omega)];refine⟨⟨d+1,r'-n,rfl,rfl,by rw[Nat.add_mul];omega⟩,?_⟩;rw[yH,yH];omega
   · have hlt2:r'<n:=by have:=of_decide_eq_false hlt2;omega
     simp only[go_sem,h0',h1,h8,h9,h10,h11];refine PC.use (yN d hd10) ?_;have hds:(dec d).size=1:=by rw[eY,uL];exact hd10
     simp only[go_sem,h0',h1,h8,h9,h10,h11,bG (show k≤4611686018427387904 by omega)];refine⟨by show((q.size+(dec d).size:Nat):Int)≤9223372036854775807;omega,?_⟩;refine⟨⟨k+1,r',_,hlt,rfl,rfl,rfl,by rw[ByteArray.size_append];omega,?_,hlt2,?_⟩,by simp only[aI];omega⟩
     · rw[kF,List.all_append,hqd,vS];rfl
     · rw[cN hc,kH,hv,kF,fS,Lib.decDigits_one hd10,kH,kI hd10,show 48+d-48=d by omega,Nat.add_mul,Nat.mul_assoc]
       omega
 · have hge:=geB hk hge
   simp only[go_sem,h8,h9];refine PC.use (FJ q (by omega) (fun e=>by rw[←bV,e]at hq;simp at hq;omega) hqd) ?_;simp only[go_sem,h8,h9];rw[hge,List.take_of_length_le (by omega),fS,mA]at hv;have hv:m=dJ q*n+r:=hv;have hq2:m/n=dJ q:=by
     rw[hv,Nat.add_comm,Nat.add_mul_div_right _ _ (by omega),Nat.div_eq_of_lt hr,Nat.zero_add]
   have hr2:m%n=r:=by
     rw[hv,Nat.add_comm,Nat.add_mul_mod_self_right,Nat.mod_eq_of_lt hr]
   rw[hq2,hr2];exact .refl _
theorem WX(a b:ByteArray)(ha:a.size≤1048576)(hb:b.size≤1048576):PC Tryz.prog 106 [str a,str b] (.tup [str (wA a b).1,int (wA a b).2]):=by
 refine PC.body (c:=Tryz.f106.body.getD .skip) (fun _=>false) mixed Tryz.func106 rfl (by kernel_rfl) ?_;unfold Tryz.f106;simp only[Option.getD_some];simp only[go_sem];refine PC.use (IA a b ha hb) ?_;simp only[go_sem];refine aA (fun h=>?_) (fun h=>?_)
 · have h:gX a b≠0:=by simpa using h
   simp only[go_sem];rw[show wA a b=(emp,gX a b)from if_neg h];exact .refl _
 have h:gX a b=0:=by simpa using h
 obtain⟨m,n,rfl,rfl,hm,hn⟩:=nB h;rw[show wA (dec m) (dec n)=szN (Nat.gcd m n)by unfold wA;rw[if_pos h,bP,bP]];simp only[go_sem];refine⟨fun ρ _=>∃(x y:Nat),ρ 0=str (dec x)∧ρ 1=str (dec y)∧x<cC∧y<cC∧Nat.gcd m n=Nat.gcd x y,fun ρ _=>XD (ρ 1),⟨m,n,by simp only[go_sem],by simp only[go_sem],hm,hn,rfl⟩,?_⟩;rintro ρ H ⟨x,y,h0,h1,hx,hy,hg⟩;simp only[go_sem,h0,h1,nM];refine aA (fun hb=>?_) (fun hb=>?_)
 · have hy0 : y ≠ 0 := fun e => by
     rw[e,show eqB (dec 0) (dec 0)=true from lC.2 rfl]at hb;cases hb
   simp only[go_sem,h0,h1];refine PC.use (WE (dec x) (dec y) (dF hx) (dF hy)) ?_;rw[HT hx hy hy0];simp only[go_sem,h0,h1];have hlt:=Nat.mod_lt x (show 0<y by omega);refine⟨⟨y,x%y,rfl,rfl,hy,by omega,?_⟩,by rw[yH,yH];exact hlt⟩;rw[hg,Nat.gcd_comm x y,Nat.gcd_rec y x,Nat.gcd_comm]
 · have hy0 : y = 0 := by
     have:eqB (dec y) (dec 0)=true:=by simpa using hb
     exact oB.1 (lC.1 this)
   simp only[go_sem,h0];rw[hg,hy0,Nat.gcd_zero_right,vH hx];exact .refl _
theorem Mb(c d:UInt8):(((c.toNat:Nat):Int) == ((d.toNat:Nat):Int))=(c == d):=by
 rw[Bool.eq_iff_iff,beq_iff_eq,beq_iff_eq,Int.ofNat_inj,UInt8.toNat_inj]
theorem zA(s:ByteArray):(decide ((s.size:Int)>0)&&(((bl s).getD 0 0).toNat:Int) == 45)=dZ s:=by
 rw[←bV];unfold dZ;cases bl s with
 | nil=>rfl
 | cons c r=>
   rw[show decide ((((c::r).length:Nat):Int)>0)=true by simp];simp only[List.getD_cons_zero,List.head?_cons,Bool.true_and];rw[show(some c == some (45:UInt8))=(c == 45)from rfl];exact Mb c 45
def stN(s:ByteArray):Nat:=if dZ s=true then 1 else 0
theorem tE(s:ByteArray):bl (cY s)=(bl s).drop (stN s):=by
 unfold cY stN;split
 · exact gM _
 · rw[List.drop_zero]
theorem FB(s:ByteArray):stN s≤(bl s).length:=by
 unfold stN;split
 · rename_i h
   unfold dZ at h;cases hb:bl s with
   | nil=>rw[hb]at h;cases h
   | cons c r=>simp
 · omega
theorem Gd{s:ByteArray}{c:UInt8}(h1:(bl s)[stN s]?=some c)(h2:((bl s).drop (stN s)).all isD=true):eU s=((c != 48)||bl s == [48]):=by
 obtain⟨hk,hc⟩:=List.getElem?_eq_some_iff.1 h1;have e1:bl (cY s)=c::(bl s).drop (stN s+1):=by rw[tE,List.drop_eq_getElem_cons hk,hc]
 have e0:eqB (cY s) (dec 0)=(c::(bl s).drop (stN s+1) == [48]):=by rw[←nM,e1]
 have h2:(c::(bl s).drop (stN s+1)).all isD=true:=by rw[←e1,tE];exact h2
 unfold eU cR dL;rw[e0,e1];rw[h2,Bool.and_true,show((c::(bl s).drop (stN s+1)) != [])=true from rfl,Bool.true_and,List.getD_cons_zero];by_cases hm:dZ s=true
 · have e2 : (bl s == [48]) = false := by
     unfold dZ at hm;cases hb:bl s with
     | nil=>rw[hb]at hm;cases hm
     | cons x r=>
       rw[hb]at hm;have:x=45:=by simpa using hm
       subst this;rfl
   rw[hm,e2];cases hr:(bl s).drop (stN s+1)with
   | nil=>cases h3:(c == 48) <;> simp[bne,h3] <;> simpa using h3
   | cons y r=>cases h3:(c == 48) <;> simp[bne,h3]
 · have hd:cY s=s:=if_neg hm
   have hm:dZ s=false:=by simpa using hm
   rw[hd]at e1;rw[hm,Bool.false_and,Bool.not_false,Bool.and_true,show(bl s == [48])=(c::(bl s).drop (stN s+1) == [48])by rw[←e1]];cases hr:(bl s).drop (stN s+1)with
   | nil=>cases h3:(c == 48) <;> simp[bne,h3]
   | cons y r=>cases h3:(c == 48) <;> simp[bne,h3]
theorem BA(s:ByteArray)(h:s.size≤1048576):PC Tryz.prog 102 [str s] (boo (eU s)):=by
 have hs:=bV s;have hst:=FB s;refine PC.body (c:=Tryz.f102.body.getD .skip) (fun _=>false) mixed Tryz.func102 rfl (by kernel_rfl) ?_;unfold Tryz.f102;simp only[Option.getD_some];simp only[go_sem];refine⟨fun h=>⟨by omega,by have:=of_decide_eq_true h;omega⟩,?_⟩;rw[zA];refine bD (fun ρ' H'=>ρ' 0=str s∧ρ' 3=int (stN s:Nat)) ?_ fun K hK=>aA (fun hb=>?_) (fun hb=>?_)
 rotate_left
 · simp only[go_sem]
   exact hK _ _ ⟨by simp only[go_sem],by simp only[go_sem];rw[show stN s=1 from if_pos hb];rfl⟩
 · simp only[go_sem]
   exact hK _ _ ⟨by simp only[go_sem],by simp only[go_sem];rw[show stN s=0 from if_neg (by rw[hb];simp)];rfl⟩
 rintro ρ H ⟨h0,h3⟩;simp only[go_sem,h0,h3];refine aA (fun hb=>?_) (fun hb=>?_)
 · simp only[go_sem]
   refine cB ?_;have he:s.size=stN s:=by rw[beq_iff_eq]at hb;omega
   unfold eU cR dL;rw[tE,List.drop_of_length_le (by omega)];rfl
 have hne:stN s<(bl s).length:=by rw[beq_eq_false_iff_ne]at hb;omega
 simp only[go_sem,h0,h3];refine⟨fun ρ _=>∃k:Nat,stN s≤k∧k≤(bl s).length∧ρ 0=str s∧ρ 3=int (stN s:Nat)∧ρ 4=int k∧∀c∈((bl s).take k).drop (stN s),isD c=true,fun ρ _=>(bl s).length-bQ (ρ 4),⟨stN s,Nat.le_refl _,by omega,by simp only[go_sem,h0],by simp only[go_sem,h3],by simp only[go_sem,h3],by rw[List.drop_of_length_le (by simp;omega)];simp⟩,?_⟩;clear h0 h3;rintro ρ H ⟨k,hk1,hk,h0,h3,h4,hz⟩;simp only[go_sem,h0,h3,h4];refine aA (fun hlt=>?_) (fun hge=>?_)
 · have hlt:k<(bl s).length:=by have:=ltB hlt;omega
   obtain⟨c,hc⟩:=bC hlt;have hi:=nJ hc;simp only[go_sem,h0,h3,h4,hi,F4];have hnew:((bl s).take (k+1)).drop (stN s)=((bl s).take k).drop (stN s)++[c]:=by
     rw[cN hc,List.drop_append_of_le_length (by rw[List.length_take];omega)]
   refine⟨⟨by omega,by omega⟩,fun _=>⟨by omega,by omega⟩,aA (fun hb2=>?_) (fun hb2=>?_)⟩
   · simp only[go_sem]
     refine cB ?_;unfold eU cR dL;rw[tE];rw[Li (k:=k-stN s) (c:=c) (by rw[List.getElem?_drop,show stN s+(k-stN s)=k by omega];exact hc) (by simpa using hb2)];simp
   · simp only[go_sem,h0,h3,h4,bG (show k≤4611686018427387904 by omega)]
     refine⟨⟨k+1,by omega,hlt,rfl,?_⟩,by simp only[aI];omega⟩;rw[hnew];intro x hx;rcases List.mem_append.1 hx with hx|hx
     · exact hz x hx
     · rw[List.mem_singleton.1 hx];simpa using hb2
 · have hge:k=(bl s).length:=by rw[←hs]at hge;exact geB hk hge
   subst hge;rw[List.take_length]at hz;obtain⟨c,hc⟩:=bC hne;simp only[go_sem,h0,h3,h4,nJ hc];refine⟨⟨by omega,by omega⟩,?_⟩;refine cB ?_;rw[Gd hc (Gx hz)]
   congr 1
   rw[bne,bne,←Mb c 48];rfl
theorem Du(s:ByteArray)(h:s.size≤1048576):PC Tryz.prog 196 [str s] (int (cY s).size):=by
 have hs:=bV s;refine PC.body (c:=Tryz.f196.body.getD .skip) (fun _=>false) mixed Tryz.func196 rfl (by kernel_rfl) ?_;unfold Tryz.f196;simp only[Option.getD_some];simp only[go_sem];refine⟨fun h=>⟨by omega,by have:=of_decide_eq_true h;omega⟩,?_⟩;rw[zA];have hd:(cY s).size=s.size-stN s:=by rw[←bV,tE,List.length_drop,hs]
 have hst:=FB s;refine aA (fun hb=>?_) (fun hb=>?_)
 · have:stN s=1:=if_pos hb
   simp only[go_sem];refine cI ?_;rw[aT (by omega)];omega
 · have:stN s=0:=if_neg (by rw[hb];simp)
   simp only[go_sem];exact cI (by omega)
theorem RB(a b:ByteArray)(ha:a.size≤1048576)(hb:b.size≤1048576):PC Tryz.prog 157 [str a,str b] (int (jY a b)):=by
 refine PC.body (c:=Tryz.f157.body.getD .skip) (fun _=>false) mixed Tryz.func157 rfl (by kernel_rfl) ?_;unfold Tryz.f157;simp only[Option.getD_some];simp only[go_sem];refine PC.use (BA a (by omega)) ?_;simp only[go_sem];refine⟨_,fun _=>(BA b (by omega)).q rfl,?_⟩;simp only[go_sem];unfold jY;refine aA (fun hc=>?_) (fun hc=>?_)
 · simp only[go_sem]
   exact cI (by rw[if_pos hc])
 · simp only[go_sem]
   refine PC.use (Du a ha) ?_;simp only[go_sem];refine⟨_,fun _=>(Du b hb).q rfl,?_⟩;simp only[go_sem];have e1:decide (((cY a).size:Int)>4096)=decide ((cY a).size>4096):=by rw[decide_eq_decide];omega
   have e2:decide (((cY b).size:Int)>4096)=decide ((cY b).size>4096):=by rw[decide_eq_decide];omega
   rw[if_neg (by rw[hc];simp),e1,e2];refine aA (fun hd=>?_) (fun hd=>?_)
   · simp only[go_sem]
     exact cI (by rw[if_pos hd])
   · simp only[go_sem]
     exact cI (by rw[if_neg (by rw[hd];simp)])
theorem UX(l:List Nat)(h:l.length≤4611686018427387904):PC Tryz.prog 197 [.sl (l.map iD)] (.sl ((kQ l).map iD)):=by
 refine PC.body (c:=Tryz.f197.body.getD .skip) (fun _=>false) mixed Tryz.func197 rfl (by kernel_rfl) ?_;unfold Tryz.f197;simp only[Option.getD_some];simp only[go_sem];refine⟨fun ρ _=>∃k:Nat,k≤l.length∧ρ 0=.sl (l.map iD)∧ρ 3=int k∧kQ (l.take k)=kQ l,fun ρ _=>bQ (ρ 3),⟨l.length,Nat.le_refl _,by simp only[go_sem],by simp only[go_sem,List.length_map],by rw[List.take_length]⟩,?_⟩;rintro ρ H ⟨k,hk,h0,h3,hz⟩;cases k with
 | zero=>
   have hz':kQ l=[]:=by rw[←hz];rfl
   have e0:(IntKind.i64.wrap (((0:Nat):Int)-1)).toNat=0:=rfl;rw[hz'];cases l with
   | nil=>
     simp only[go_sem,h0,h3,e0,List.map_nil,List.getD_nil,show decide (((0:Nat):Int)>0)=false from rfl];refine aA (fun hb=>by cases hb) (fun _=>?_);simp only[go_sem,h0,h3];exact⟨⟨by omega,by omega⟩,.refl _⟩
   | cons x l=>
     simp only[go_sem,h0,h3,e0,List.map_cons,List.getD_cons_zero,show decide (((0:Nat):Int)>0)=false from rfl];refine aA (fun hb=>by cases hb) (fun _=>?_);simp only[go_sem,h0,h3];exact⟨⟨by omega,by omega⟩,.refl _⟩
 | succ k=>
 have b1:IntKind.i64.wrap (((k+1:Nat):Int)-1)=(k:Int):=by rw[aT (by omega)];omega
 obtain⟨x,hx⟩:=bC (show k<l.length by omega);have e1:l.take (k+1)=l.take k++[x]:=cN hx;have b2:=inB (show k<l.length by omega);simp only[go_sem,h0,h3,b1,aH hx,b2,show decide (((k+1:Nat):Int)>0)=true from decide_eq_true (by omega)];refine aA (fun hb=>?_) (fun hb=>?_)
 · have hx0:x=0:=by simpa using hb
   simp only[go_sem,h0,h3,b1];refine⟨⟨k,by omega,rfl,?_⟩,?_⟩
   · rw[e1,rK,if_pos hx0]at hz;exact hz
   · simp only[aI];omega
 · have hx0:x≠0:=by simpa using hb
   simp only[go_sem,h0,h3];rw[e1,rK,if_neg hx0]at hz;rw[←List.map_take,e1,hz];exact⟨⟨by omega,by omega⟩,.refl _⟩
abbrev dg(n:Nat):AV:=.sl ((aV 10 n).map iD)
theorem VS{l:List Nat}(hl:Lim 10 l)(h:l.length≤4611686018427387904){n:Nat}(hn:ofL 10 l=n):PC Tryz.prog 197 [.sl (l.map iD)] (dg n):=by
 have:=UX l h
 rwa [GC (by decide) hl hn]at this
def upN:AV→Nat
 | .v (.int _ n)=>(n+1).toNat
 | _=>0
theorem F9(k:IntKind)(n:Int):upN (.v (.int k n))=(n+1).toNat:=(rfl)
theorem Vy(c:UInt8)(l:List UInt8):dl (c::l)=dl l++[c.toNat-48]:=by simp[dl]
theorem VM{k:Nat}(h:k≤4611686018427387904):IntKind.i64.wrap ((k:Int)-1-1)=(k:Int)-1-1:=aT (by omega)
theorem QJ(n:Int)(h:(zed n).size≤1048576):PC Tryz.prog 158 [str (zed n)] (.tup [boo (decide (n<0)),dg n.natAbs]):=by
 have hs:=bV (zed n);have hr:cR (cY (zed n))=true:=by rw[gU];exact jD _
 have hbd:=tE (zed n);have hst:=FB (zed n);have hall:((bl (zed n)).drop (stN (zed n))).all isD=true:=by rw[←hbd,gU];exact vS _
 have hlen:stN (zed n)<(bl (zed n)).length:=by
   have h1:0<(bl (cY (zed n))).length:=by rw[gU,fS];exact fW _
   rw[hbd,List.length_drop]at h1;omega
 have hm:(((((bl (zed n)).getD 0 0).toNat:Nat):Int) == 45)=dZ (zed n):=by
   rw[←zA,show decide (((zed n).size:Int)>0)=true by simp;omega,Bool.true_and]
 refine PC.body (c:=Tryz.f158.body.getD .skip) (fun t=>t == 4) mixed Tryz.func158 rfl (by kernel_rfl) ?_;unfold Tryz.f158;simp only[Option.getD_some];simp only[go_sem];refine aN fun j hj=>?_
 simp only[go_sem,hm];refine⟨⟨by omega,by omega⟩,?_⟩;refine⟨fun ρ H=>∃(k j:Nat),k≤(bl (zed n)).length∧ρ 0=str (zed n)∧ρ 5=boo (dZ (zed n))∧ρ 4=.os j∧ρ 6=int ((k:Int)-1)∧H j=some (cL (dl ((bl (zed n)).drop (max k (stN (zed n)))))),fun ρ _=>upN (ρ 6),
   ⟨(bl (zed n)).length,j,Nat.le_refl _,by simp only[go_sem],by simp only[go_sem],by simp only[go_sem],by simp only[go_sem];rw[hs,aT (by omega)],?_⟩,?_⟩
 · rw[aB,List.drop_of_length_le (by omega)];rfl
 clear hj j;rintro ρ H ⟨k,j,hk,h0,h5,h4,h6,Rj⟩;simp only[go_sem,h0,h5,h4,h6];refine aA (fun hge=>?_) (fun hlt=>?_)
 · have hge:0<k:=by have:=of_decide_eq_true hge;omega
   obtain⟨c,hc⟩:=bC (l:=bl (zed n)) (k:=k-1) (by omega);have ei:((k:Int)-1).toNat=k-1:=by omega
   have hdc:(bl (zed n)).drop (k-1)=c::(bl (zed n)).drop k:=by
     obtain⟨hk2,e⟩:=List.getElem?_eq_some_iff.1 hc;rw[List.drop_eq_getElem_cons hk2,e,show k-1+1=k by omega]
   simp only[go_sem,h0,h5,h4,h6,ei,nJ hc];refine⟨⟨by omega,by omega⟩,?_⟩;by_cases hks:k-1<stN (zed n)
   · have hm1 : dZ (zed n) = true := by
       unfold stN at hks;split at hks
       · assumption
       · omega
     have hst1:stN (zed n)=1:=if_pos hm1;have hk1:k=1:=by omega
     subst hk1;have hc45:c=45:=by
       unfold dZ at hm1;cases hb:bl (zed n)with
       | nil=>rw[hb]at hm1;cases hm1
       | cons x r=>
         rw[hb]at hm1 hc;have h1:x=45:=by simpa using hm1
         have h2:x=c:=by simpa using hc
         rw[←h2,h1]
     subst hc45;refine aA (fun hb=>by cases hb) (fun _=>?_);simp only[go_sem,h0,h5,h4,h6];refine⟨⟨0,j,by omega,rfl,rfl,?_⟩,?_⟩
     · rw[Rj,hst1];rfl
     · simp only[F9];decide
   · have hcd : isD c = true := List.all_eq_true.1 hall c (by
       refine List.mem_of_getElem? (i:=k-1-stN (zed n)) ?_;rw[List.getElem?_drop,show stN (zed n)+(k-1-stN (zed n))=k-1 by omega];exact hc)
     have hc2:=jT.1 hcd;refine aA (fun _=>?_) (fun hb=>?_)
     rotate_left
     · exfalso
       have:c.toNat=45:=by
         have:((c.toNat:Int) != 45)=false:=hb;rw[bne_eq_false_iff_eq]at this;omega
       omega
     simp only[go_sem,h0,h5,h4,h6,ei,nJ hc];refine⟨⟨by omega,by omega⟩,?_⟩;have hcw:IntKind.i64.wrap (IntKind.u8.wrap ((c.toNat:Int)-48))=((c.toNat-48:Nat):Int):=by rw[u8w hc2.1 (by omega),aT (by omega)]
     rw[hcw];refine bA Rj ⟨rfl,rfl⟩ ⟨rfl,trivial⟩ (by simp only[cL,List.length_map,Ch,List.length_drop,List.length_cons,List.length_nil];omega) (fun j' hj'=>?_);simp only[go_sem,h0,h5,h4,h6,VM (show k≤4611686018427387904 by omega)];refine⟨⟨k-1,j',by omega,rfl,?_,?_⟩,?_⟩
     · rw[show(k:Int)-1-1=((k-1:Nat):Int)-1 by omega]
     · rw[show max k (stN (zed n))=k by omega,show max (k-1) (stN (zed n))=k-1 by omega,hdc,Vy]
       exact rZ
     · simp only[F9];omega
 · have hge:k=0:=by have:=of_decide_eq_false hlt;omega
   subst hge;simp only[go_sem,h5,h4];rw[Nat.max_eq_right (by omega)]at Rj;have hlim:=Mc hall;refine PC.useF [j] (.cons _ _ _ _ (.row _ _ _ (by simp only[List.mem_singleton,if_true];exact Rj) (ConvE.refl _)) .nil) (VS (n:=n.natAbs) hlim (by rw[Ch,List.length_drop];omega) (by rw[KR,←hbd,gU,fS,mA])) ?_;simp only[go_sem,tA];exact .refl _
def DN(l:List UInt8):Row:=⟨5,1,l.map fun c=>[.v (.int .u8 (c.toNat:Nat))]⟩
theorem Sr(l:List UInt8):oG (l.map fun c=>[.v (.int .u8 (c.toNat:Nat))])=some (l.map fun c=>((c.toNat:Nat):Int)):=by
 induction l with
 | nil=>rfl
 | cons c l ih=>simp only[List.map_cons,oG,ih,Option.map_some]
theorem N4(l:List UInt8):bl (strOfNums (l.map fun c=>((c.toNat:Nat):Int)))=l:=by
 rw[strOfNums,gM,List.map_map]
 conv=>rhs;rw[←List.map_id l]
 refine List.map_congr_left fun c _=>?_
 simp
theorem U4(m:Bool)(l:List Nat)(hl:Lim 10 l)(h:l.length≤1048576):PC Tryz.prog 159 [boo m,.sl (l.map iD)] (str (zed (sg m (ofL 10 l)))):=by
 have htr:=VS hl (by omega) rfl;have hlim:=dH (b:=10) (by decide) (ofL 10 l);have hll:(aV 10 (ofL 10 l)).length≤l.length:=kN (by decide) (mI (by decide) hl);have hval:=dM (b:=10) (by decide) (ofL 10 l);refine PC.body (c:=Tryz.f159.body.getD .skip) (fun t=>t == 5||t == 32) mixed Tryz.func159 rfl (by kernel_rfl) ?_;unfold Tryz.f159;simp only[Option.getD_some];simp only[go_sem];refine PC.use htr ?_;generalize ofL 10 l=n at *;simp only[go_sem,List.length_map];refine aA (fun hb=>?_) (fun hb=>?_)
 · have h0 : n = 0 := by
     have:(aV 10 n).length=0:=by rw[beq_iff_eq]at hb;omega
     exact(oW (by decide)).1 (List.length_eq_zero_iff.1 this)
   simp only[go_sem];refine cS ?_;rw[h0,CS];unfold sg;split <;> exact(fM 0).symm
 have h0:n≠0:=fun e=>by rw[e,dQ]at hb;cases hb
 simp only[go_sem];refine aN fun j hj=>?_
 simp only[go_sem];refine bD (fun ρ' H'=>∃j,ρ' 1=dg n∧ρ' 5=.os j∧H' j=some (DN (if m=true then[45]else[]))) ?_ fun K hK=>aA (fun hb=>?_) (fun hb=>?_)
 rotate_left
 · simp only[go_sem]
   refine bA (aB _ _ _) ⟨rfl,rfl⟩ ⟨rfl,trivial⟩ (by simp) (fun j' hj'=>?_);simp only[go_sem];exact hK _ _ ⟨j',by simp only[go_sem],by simp only[go_sem],by rw[aB,if_pos hb];rfl⟩
 · simp only[go_sem]
   exact hK _ _ ⟨j,by simp only[go_sem],by simp only[go_sem],by rw[aB,if_neg (by rw[hb];simp)];rfl⟩
 clear hj j;rintro ρ H ⟨j,h1,h5,Rj⟩;simp only[go_sem,h1,h5,List.length_map];refine⟨fun ρ H=>∃(k j:Nat),k≤(aV 10 n).length∧ρ 1=dg n∧ρ 5=.os j∧ρ 6=int ((k:Int)-1)∧H j=some (DN ((if m=true then[45]else[])++txt ((aV 10 n).drop k))),fun ρ _=>upN (ρ 6),
   ⟨(aV 10 n).length,j,Nat.le_refl _,by simp only[go_sem,h1],by simp only[go_sem,h5],by simp only[go_sem,h1,List.length_map];rw[aT (by omega)],by rw[List.drop_length];simpa[txt]using Rj⟩,?_⟩
 clear h1 h5 Rj j;rintro ρ H ⟨k,j,hk,h1,h5,h6,Rj⟩;simp only[go_sem,h1,h5,h6];refine aA (fun hge=>?_) (fun hlt=>?_)
 · have hge:0<k:=by have:=of_decide_eq_true hge;omega
   obtain⟨x,hx⟩:=bC (l:=aV 10 n) (k:=k-1) (by omega);have ei:((k:Int)-1).toNat=k-1:=by omega
   have hxl:x<10:=hlim x (List.mem_of_getElem? hx);have hdc:(aV 10 n).drop (k-1)=x::(aV 10 n).drop k:=by
     obtain⟨hk2,e⟩:=List.getElem?_eq_some_iff.1 hx;rw[List.drop_eq_getElem_cons hk2,e,show k-1+1=k by omega]
   have b1:0≤(k:Int)-1∧(k:Int)-1<((aV 10 n).length:Nat):=by omega
   simp only[go_sem,h1,h5,h6,ei,aH hx,b1,List.length_map];have ew:IntKind.u8.wrap (IntKind.i64.wrap (48+(x:Int)))=(((UInt8.ofNat (48+x)).toNat:Nat):Int):=by
     rw[kI hxl,show IntKind.i64.wrap (48+(x:Int))=48+(x:Int)from aT (by omega),show IntKind.u8.wrap (48+(x:Int))=(48+(x:Int))%256 from rfl];omega
   rw[ew];have hel:∀(p q:List UInt8),(DN (p++q)).es.length=p.length+q.length:=fun p q=>by simp[DN]
   refine bA Rj ⟨rfl,rfl⟩ ⟨rfl,trivial⟩ ?_ (fun j' hj'=>?_)
   · rw[hel]
     have h2:(if m=true then[45]else[]:List UInt8).length≤1:=by split <;> simp
     simp only[txt,List.length_reverse,List.length_map,List.length_drop,List.length_cons,List.length_nil];omega
   simp only[go_sem,h1,h5,h6,VM (show k≤4611686018427387904 by omega)];refine⟨⟨k-1,j',by omega,rfl,?_,?_⟩,?_⟩
   · rw[show(k:Int)-1-1=((k-1:Nat):Int)-1 by omega]
   · rw[aB,hdc]
     simp only[DN,txt,List.map_cons,List.reverse_cons,List.map_append,List.map_nil,List.append_assoc]
   · simp only[F9];omega
 · have hge:k=0:=by have:=of_decide_eq_false hlt;omega
   subst hge;simp only[go_sem,h5];refine zU (by simp only[go_sem,h5]) Rj fun Hr _ _=>?_
   simp only[go_sem,DN,Sr];refine cS (jG ?_);rw[N4,DL h0];unfold sg;cases m with
   | true=>rw[if_pos rfl,if_pos rfl,yQ (by omega),gM];rfl
   | false=>rw[if_neg (by simp),if_neg (by simp),fM,fS];rfl
theorem O9(m:Nat):(aV 10 m).length≤(dec m).size:=by
 by_cases h:m=0
 · rw[h,dQ];simp
 · have:=congrArg List.length (DL h)
   rw[eY,←this];simp[txt]
theorem OZ{m:Nat}(h:m<cC):(aV 10 m).length≤4096:=by
 have h1:=O9 m;have h2:=(fX m).2 h;omega
theorem T8(m:Bool)(n:Nat)(h:(aV 10 n).length≤1048576):PC Tryz.prog 159 [boo m,dg n] (str (zed (sg m n))):=by
 have:=U4 m (aV 10 n) (dH (by decide) n) h
 rwa [dM (by decide)]at this
theorem OK{s:ByteArray}:jY s s=0→∃n:Int,s=zed n∧n.natAbs<cC:=fun h=>by
 obtain⟨m,n,e,_,hm,_⟩:=rT h;exact⟨m,e,hm⟩
theorem Wo(s:ByteArray)(h:s.size≤1048576):PC Tryz.prog 105 [str s] (.tup (if jY s s=0 then[str (dec (iU s).natAbs),int 0]else[str emp,int (jY s s)])):=by
 have hck:=RB s s h h;by_cases he:jY s s=0
 · rw[if_pos he]
   rw[he]at hck;obtain⟨n,rfl,hn⟩:=OK he;have hl:=OZ hn;refine PC.body (c:=Tryz.f105.body.getD .skip) (fun _=>false) mixed Tryz.func105 rfl (by kernel_rfl) ?_;unfold Tryz.f105;simp only[Option.getD_some];simp only[go_sem];refine PC.use hck ?_;simp only[go_sem];refine aA (fun hb=>by cases hb) (fun _=>?_);simp only[go_sem];refine PC.use (QJ n h) ?_;simp only[go_sem];refine PC.use (T8 false n.natAbs (by omega)) ?_;simp only[go_sem];rw[cU,show sg false n.natAbs=((n.natAbs:Nat):Int)from rfl,fM];exact .refl _
 · rw[if_neg he]
   refine PC.body (c:=Tryz.f105.body.getD .skip) (fun _=>false) mixed Tryz.func105 rfl (by kernel_rfl) ?_;unfold Tryz.f105;simp only[Option.getD_some];simp only[go_sem];refine PC.use hck ?_;simp only[go_sem];refine aA (fun _=>?_) (fun hb=>absurd (by simpa using hb) he);simp only[go_sem];exact .refl _
theorem DC(s:ByteArray)(h:s.size≤1048576):PC Tryz.prog 104 [str s] (int (cY s).size):=by
 have hs:=bV s;refine PC.body (c:=Tryz.f104.body.getD .skip) (fun _=>false) mixed Tryz.func104 rfl (by kernel_rfl) ?_;unfold Tryz.f104;simp only[Option.getD_some];simp only[go_sem];refine⟨fun h=>⟨by omega,by have:=of_decide_eq_true h;omega⟩,?_⟩;rw[zA];have hd:(cY s).size=s.size-stN s:=by rw[←bV,tE,List.length_drop,hs]
 have hst:=FB s;refine aA (fun hb=>?_) (fun hb=>?_)
 · have:stN s=1:=if_pos hb
   simp only[go_sem];refine cI ?_;rw[aT (by omega)];omega
 · have:stN s=0:=if_neg (by rw[hb];simp)
   simp only[go_sem];exact cI (by omega)
theorem adW{l:List UInt8}{k:Nat}{c:UInt8}(hz:∀x∈l.take k,(x != cT)=true)(hc:l[k]?=some c)(h:c=cT):l.any (· == cT)=true∧l.takeWhile (· != cT)=l.take k∧(l.dropWhile (· != cT)).drop 1=l.drop (k+1):=by
 obtain⟨hk,e⟩:=List.getElem?_eq_some_iff.1 hc;have e1:l=l.take k++cT::l.drop (k+1):=by
   conv=>lhs;rw[←List.take_append_drop k l]
   rw[List.drop_eq_getElem_cons hk,e,h]
 refine⟨List.any_eq_true.2 ⟨c,List.mem_of_getElem? hc,by simp[h]⟩,?_,?_⟩
 · conv=>lhs;rw[e1]
   exact EY hz
 · conv=>lhs;rw[e1]
   rw[DW hz];rfl
theorem Ps(s:ByteArray)(h:s.size≤1048576):PC Tryz.prog 101 [str s] (.tup [str (fN s),str (fG s),boo (iS s)]):=by
 have hs:=bV s;refine PC.body (c:=Tryz.f101.body.getD .skip) (fun _=>false) mixed Tryz.func101 rfl (by kernel_rfl) ?_;unfold Tryz.f101;simp only[Option.getD_some];simp only[go_sem];refine⟨fun ρ _=>∃k:Nat,k≤(bl s).length∧ρ 0=str s∧ρ 5=int k∧∀c∈(bl s).take k,(c != cT)=true,fun ρ _=>(bl s).length-bQ (ρ 5),⟨0,Nat.zero_le _,rfl,rfl,by simp⟩,?_⟩;rintro ρ H ⟨k,hk,h0,h5,hz⟩;simp only[go_sem,h0,h5];refine aA (fun hlt=>?_) (fun hge=>?_)
 · have hlt:k<(bl s).length:=by have:=ltB hlt;omega
   obtain⟨c,hc⟩:=bC hlt;simp only[go_sem,h0,h5,nJ hc];refine⟨⟨by omega,by omega⟩,?_⟩;rw[show(((c.toNat:Nat):Int) == 47)=(c == cT)from Mb c cT];refine aA (fun hb=>?_) (fun hb=>?_)
   · have hb:c=cT:=by simpa using hb
     obtain⟨t1,t2,t3⟩:=adW hz hc hb;have e1:s.extract 0 k=fN s:=jG (by rw[eJ,List.drop_zero,←t2];exact(gM _).symm);have hsl:iS s=true:=t1;have e2:s.extract (k+1) s.size=fG s:=jG (by
       rw[eJ,←hs,List.take_length,←t3];unfold fG;rw[if_pos hsl];exact(gM _).symm)
     simp only[go_sem];refine gL (by rfl) (by kernel_rfl) ?_;simp only[go_sem,h0,h5,bG (show k≤4611686018427387904 by omega),Int.toNat_natCast,e1,e2];rw[hsl];exact⟨⟨by omega,by omega⟩,⟨by omega,by omega⟩,.refl _⟩
   · have hb:c≠cT:=by simpa using hb
     simp only[go_sem,h0,h5,bG (show k≤4611686018427387904 by omega)];exact⟨⟨k+1,hlt,rfl,rR hc (by simpa using hb) hz⟩,by simp only[aI];omega⟩
 · have hge:k=(bl s).length:=by rw[←hs]at hge;exact geB hk hge
   subst hge;rw[List.take_length]at hz;have hsl:iS s=false:=Q4 hz;simp only[go_sem,h0];rw[hsl,Fh hsl,J3 hsl,←xN];exact .refl _
theorem rJ(s:ByteArray)(h:s.size≤1048576):PC Tryz.prog 53 [str s] (boo (cE s)):=by
 have hn:=EN s;have hd:=E2 s;have h1:(1:Nat)≤1048576:=by omega
 refine PC.body (c:=Tryz.f53.body.getD .skip) (fun _=>false) mixed Tryz.func53 rfl (by kernel_rfl) ?_;unfold Tryz.f53;simp only[Option.getD_some];simp only[go_sem];refine PC.use (Ps s h) ?_;simp only[go_sem];refine PC.use (BA (fN s) (by omega)) ?_;simp only[go_sem];refine⟨_,fun _=>(vD (fG s) (by omega)).q rfl,?_⟩;simp only[go_sem];refine⟨_,fun _=>(DC (fN s) (by omega)).q rfl,?_⟩;simp only[go_sem];refine⟨_,fun _=>(DC (fG s) (by omega)).q rfl,?_⟩;simp only[go_sem];refine aA (fun hb=>?_) (fun hb=>?_)
 · simp only[go_sem]
   refine cB ?_;by_cases hr:cR (fG s)=true
   · refine(CT ?_).symm
     rw[hr]at hb;simpa using hb
   · unfold cE
     rw[show cR (fG s)=false by simpa using hr];simp
 have hr:cR (fG s)=true:=by
   simp only[Bool.or_eq_false_iff,Bool.not_eq_false']at hb;exact hb.1.1.2
 have hb2:(!eU (fN s)||decide (((cY (fN s)).size:Int)>4096)||decide (((cY (fG s)).size:Int)>4096))=false:=by
   rw[hr]at hb;simpa using hb
 obtain⟨f1,f2,f3,f4⟩:=tZ hb2 hr;simp only[go_sem];refine aA (fun hs=>?_) (fun hs=>?_)
 · simp only[go_sem]
   refine cB ?_;have h0:iS s=false:=by simpa using hs
   unfold cE;rw[f1,h0];rfl
 have h0:iS s=true:=by simpa using hs
 simp only[go_sem,nM,Cw];refine aA (fun hc=>?_) (fun hc=>?_)
 · simp only[go_sem]
   refine cB ?_;unfold cE;rw[h0];simp only[Bool.or_eq_true]at hc;rcases hc with(hc|hc)|hc <;> simp[hc]
 simp only[Bool.or_eq_false_iff]at hc;obtain⟨⟨h5,h3⟩,h4⟩:=hc;have v0:dJ (fG s)≠0:=fun e=>mT.1 h3 (by rw[←gV hr,e])
 have v1:dJ (fG s)<cC:=(sJ hr).1 f4;have hE:jY (fN s) (fN s)=0:=by
   unfold jY;rw[f2];simp;omega
 have ha:=Wo (fN s) (by omega);rw[if_pos hE]at ha;have hm:(iU (fN s)).natAbs<cC:=by
   have:=pB (iU (fN s));rw[yZ f2]at this;exact this.1 f3
 have hdd:=gV hr;have hg:=WX (dec (iU (fN s)).natAbs) (fG s) (dF hm) (by omega);have e:wA (dec (iU (fN s)).natAbs) (fG s)=(dec (Nat.gcd (iU (fN s)).natAbs (dJ (fG s))),0):=by
   unfold wA;rw[if_pos (Bj (jD _) hr ((fX _).2 hm) f4),bP,vH (Nat.lt_of_le_of_lt (Nat.gcd_le_right _ (by omega)) v1)]
 rw[e]at hg;simp only[go_sem];refine PC.use ha ?_;simp only[go_sem];refine PC.use hg ?_;simp only[go_sem,Cw];refine cB ?_;unfold cE;rw[f1,h0,h3,h4,h5];simp only[beq_self_eq_true,Bool.true_and,Bool.not_true,Bool.not_false,Bool.false_or];rw[Bool.eq_iff_iff,lC,oB,beq_iff_eq]
end Go.Proofs.YtdlijlecpopadaaGreatDoor.Nu
end
