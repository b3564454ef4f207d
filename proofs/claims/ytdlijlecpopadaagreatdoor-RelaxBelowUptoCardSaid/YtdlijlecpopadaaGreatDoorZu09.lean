import Derived.Test.YtdlijlecpopadaaGreatDoorZu08
set_option linter.unusedSimpArgs false
set_option linter.unusedVariables false
set_option maxRecDepth 100000
section
namespace Go.Proofs.YtdlijlecpopadaaGreatDoor.Nu
open Go.Proofs.Tryz(prog)
open Go.Aw Go.Aw.D Go.Proofs Ty Go.Nu
theorem IT{P:Program}{G:_}{t:TypeId}{a b:ByteArray}{k:AV->Prop}:gV P G .lss t (.v (.string a)) (.v (.string b)) k=k (.v (.bool (Op.bytesLess a.toList b.toList))):=(rfl)
attribute [go_sem ↓] IT
attribute [go_sem] IT
theorem amY(s:ByteArray):s.toList=bl s:=ByteArray.toList_eq s
theorem NK:∀{l r:List UInt8},l.length=r.length->Op.bytesLess l r=decide (Lib.compareBytes l r= -1)
 | [],[],_=>rfl
 | [],_::_,h=>by simp at h
 | _::_,[],h=>by simp at h
 | a::l,b::r,h=>by
   simp only[Xac,Nat.add_right_cancel_iff]at h;have ih:=NK h;rw[Op.bytesLess,Lib.compareBytes,ih];by_cases h1:a<b
   . simp[h1]
   . by_cases E:b<a
     . have : (a == b) = false := by
         rw[beq_eq_false_iff_ne];rintro rfl;exact absurd E h1
       simp[h1,E,this]
     . have : a = b := by
         rw[UInt8.lt_iff_toNat_lt]at h1 E;exact UInt8.toNat_inj.1 (by omega)
       subst this;simp
theorem YM{m n:Nat}(h:(dec m).size=(dec n).size):Op.bytesLess (bl (dec m)) (bl (dec n))=decide (m<n):=by
 have E:=gY m;have F:=gY n;rw[gZ,gZ,NK (by omega),Dm (tZ m) (tZ n) (by omega),oG,oG,decide_eq_decide];unfold iQ;split
 . simp;omega
 . split <;> simp <;> omega
theorem zQ(s:ByteArray)(h:s.size<=4611686018427387904):PC prog 103 [str s] (boo (dK s)):=by
 have Z:=cF s;refine pcd Tryz.func103 ?_;unfold Tryz.f103;simp only[gdS];simp only[go_sem];refine⟨fun h=>⟨by omega,by have:=of_decide_eq_true h.2;omega⟩,?_⟩;have J:((s.size:Int) == 0||decide ((s.size:Int)>1)&&((bl s).getD 0 0).toNat == (48:Int))= !(bl s != []&&((bl s).length == 1||(bl s).getD 0 0 != 48)):=by
   rw[<-Z];cases bl s with
   | nil=>rfl
   | cons c r=>
     have e1:(((c.toNat:Nat):Int) == 48)=(c == 48):=by
       rw[Xar,Xas,Xas,<-UInt8.toNat_inj];exact Int.ofNat_inj (n:=48)
     simp only[List.getD_cons_zero,e1];cases r with
     | nil=>simp
     | cons c2 r=>
       have h0:(((c::c2::r).length:Int) == 0)=false:=by simp;omega
       have h1:decide (((c::c2::r).length:Int)>1)=true:=by simp;omega
       rw[h0,h1,show((c::c2::r) != [])=true from rfl,show((c::c2::r).length == 1)=false from rfl];cases h:(c == 48) <;> simp[bne,h]
 rw[J];refine aB (fun O=>?_) (fun O=>?_)
 . simp only[go_sem]
   refine cB ?_;unfold dK eK;rw[Xbh]at O;rw[O];rfl
 rw[Xcb]at O;simp only[go_sem];refine⟨fun ρ _=>∃k:Nat,k<=(bl s).length/\ρ 0=str s/\ρ 3=int k/\∀c∈(bl s).take k,isD c=true,fun ρ _=>(bl s).length-aX (ρ 3),⟨0,Xab _,rfl,rfl,by simp⟩,?_⟩;rintro ρ H ⟨k,hk,h0,Y,X⟩;simp only[go_sem,h0,Y];refine aB (fun E=>?_) (fun F=>?_)
 . have E:k<(bl s).length:=by have:=ltB E;omega
   obtain⟨c,J⟩:=aQ E;have hi:=qC J;simp only[go_sem,h0,Y,hi,K9];refine⟨⟨by omega,by omega⟩,fun _=>⟨by omega,by omega⟩,aB (fun I=>?_) (fun I=>?_)⟩
   . simp only[go_sem]
     refine cB ?_;unfold dK eK;rw[SB J (by simpa using I),Bool.and_false]
   . simp only[go_sem,h0,Y,aS (show k<=4611686018427387904 by omega)]
     exact⟨⟨k+1,E,rfl,vF J (by simpa using I) X⟩,by simp only[aG];omega⟩
 . have F:k=(bl s).length:=by rw[<-Z]at F;exact geB hk F
   subst F;rw[Xaf]at X;simp only[go_sem];refine cB ?_;unfold dK eK;rw[O,Kx X];rfl
def Zo(a b:ByteArray):Int:=if(dK a&&dK b)=true then iQ (eH a) (eH b)else 0
theorem Rh(a b:ByteArray)(ha:a.size<=1048576)(J:b.size<=1048576):PC prog 199 [str a,str b] (int (Zo a b)):=by
 refine pcd Tryz.func199 ?_;unfold Tryz.f199;simp only[gdS];simp only[go_sem];refine PC.use (zQ a (by omega)) ?_;simp only[go_sem];refine⟨_,fun _=>(zQ b (by omega)).q rfl,?_⟩;simp only[go_sem];refine aB (fun F=>?_) (fun F=>?_)
 . simp only[go_sem]
   refine cI ?_;unfold Zo;split
   . rename_i O
     simp only[Xam]at O;rw[O.1,O.2]at F;have:a=b:=nJ.1 (by simpa[eqB]using F);rw[this,rX rfl]
   . rfl
 have F:dK a=true/\dK b=true/\eqB a b=false:=by
   simp only[Xai,Xcb]at F;exact⟨F.1.1,F.1.2,F.2⟩
 obtain⟨h1,I,X⟩:=F;rw[show Zo a b=iQ (eH a) (eH b)from if_pos (by rw[h1,I];rfl)];rw[<-jC h1,<-jC I,pJ]at *;generalize eH a=m at *;generalize eH b=n at *;have aa:m≠n:=fun e=>X (by rw[e])
 have hm:=gY m;have hn:=gY n;have E:∀{p q:Nat},(Lib.decDigits p).length<(Lib.decDigits q).length->p<q:=fun {p q} h=>by
   have h1:=(iK (n:=p) (k:=(Lib.decDigits p).length) (iE p)).1 (Xag _);rcases Xbe p q with I|I
   . exact I
   . have:=(iK (n:=q) (k:=(Lib.decDigits p).length) (iE p)).2 (by omega)
     omega
 simp only[go_sem,amY];have Y:(decide (((dec m).size:Int)<(dec n).size)||((dec m).size:Int) == (dec n).size&&Op.bytesLess (bl (dec m)) (bl (dec n)))=decide (m<n):=by
   by_cases h1:(dec m).size=(dec n).size
   . rw[YM h1,h1]
     simp
   . rcases Xbe (dec m).size (dec n).size with I|I
     . have:=E (p:=m) (q:=n) (by omega)
       simp[this];omega
     . have:=E (p:=n) (q:=m) (by omega)
       have X:¬m<n:=by omega
       have Z:(((dec m).size:Int) == (dec n).size)=false:=by simp;omega
       rw[Z];simp[X];omega
 rw[Y];refine aB (fun J=>?_) (fun J=>?_)
 . have:=of_decide_eq_true J
   simp only[go_sem];exact cI (by rw[bW,bW,kP (by omega)])
 . have:=of_decide_eq_false J
   simp only[go_sem];exact cI (by rw[bW,bW,kO (by omega)])
theorem Pq(a b:ByteArray)(O:a.size<=1048576)(X:b.size<=1048576):PC prog 160 [str a,str b] (int (jD a b)):=by
 refine pcd Tryz.func160 ?_;unfold Tryz.f160;simp only[gdS];simp only[go_sem];refine PC.use (zQ a (by omega)) ?_;simp only[go_sem];refine⟨_,fun _=>(zQ b (by omega)).q rfl,?_⟩;simp only[go_sem];unfold jD;refine aB (fun F=>?_) (fun F=>?_)
 . simp only[go_sem]
   exact cI (by rw[if_pos F])
 . simp only[go_sem]
   have I:decide ((a.size:Int)>4096)=decide (a.size>4096):=by rw[decide_eq_decide];omega
   have J:decide ((b.size:Int)>4096)=decide (b.size>4096):=by rw[decide_eq_decide];omega
   rw[if_neg (by rw[F];simp),I,J];refine aB (fun E=>?_) (fun E=>?_)
   . simp only[go_sem]
     exact cI (by rw[if_pos E])
   . simp only[go_sem]
     exact cI (by rw[if_neg (by rw[E];simp)])
theorem BF(d:Nat)(F:d<10):PC prog 201 [int d] (str (dec d)):=by
 refine pcd Tryz.func201 ?_;unfold Tryz.f201;simp only[gdS];simp only[go_sem];have I:IntKind.i64.wrap ((d:Int)+1)=((d+1:Nat):Int):=aS (by omega);rw[I];refine⟨⟨by omega,by omega,by show((d+1:Nat):Int)<=10;omega⟩,?_⟩;refine cS (lB ?_);rw[fQ,gZ,Lib.decDigits_one F];have E:∀e:Fin 10,(List.take (e.val+1) (bl ⟨#[48,49,50,51,52,53,54,55,56,57]⟩)).drop e.val=[UInt8.ofNat (48+e.val)]:=by decide
 exact E ⟨d,F⟩
theorem avS{l:List UInt8}{i:Nat}(h:i<l.length):(dl l).getD i 0=(l.getD (l.length-1-i) 0).toNat-48:=by
 have E:l.length-1-i<l.length:=by omega
 simp only[dl,List.getD,List.getElem?_reverse (show i<(l.map fun c=>c.toNat-48).length by simpa using h),Xaa,List.getElem?_map,List.getElem?_eq_getElem E,Option.map_some,Xcm]
theorem Nz(s:ByteArray)(O:(bl s).all isD=true)(i:Nat)(h:s.size<=1048576)(hi:i<=1048576):PC prog 233 [str s,int i] (int ((dl (bl s)).getD i 0:Nat)):=by
 have J:=cF s;refine pcd Tryz.func233 ?_;unfold Tryz.f233;simp only[gdS];simp only[go_sem];refine aB (fun F=>?_) (fun F=>?_)
 . simp only[go_sem]
   refine cI ?_;have:=of_decide_eq_true F;have Y:(dl (bl s)).getD i 0=0:=by
     simp only[List.getD,List.getElem?_eq_none (show(dl (bl s)).length<=i by rw[Gx];omega),Option.getD_none]
   rw[Y];rfl
 have F:i<s.size:=by have:=of_decide_eq_false F;omega
 have X:IntKind.i64.wrap (IntKind.i64.wrap ((s.size:Int)-1)-(i:Int))=((s.size-1-i:Nat):Int):=by
   rw[show IntKind.i64.wrap ((s.size:Int)-1)=(s.size:Int)-1 from aW (by omega),aW (by omega)];omega
 obtain⟨c,E⟩:=aQ (l:=bl s) (k:=s.size-1-i) (by omega);have I:=lM.1 (Xao.1 O c (Xad E));simp only[go_sem,X,Xan,qC E,u8w I.1 (by omega)];refine⟨by omega,?_⟩;refine cI ?_;rw[avS (by omega),J,qC E,aW (by omega)]
theorem KV(s:ByteArray)(h:s.size<=1048576)(h0:bl s≠[])(hd:(bl s).all isD=true):PC prog 198 [str s] (str (dec (eH s))):=by
 refine pcd Tryz.func198 ?_;unfold Tryz.f198;simp only[gdS];simp only[go_sem];refine⟨fun ρ _=>∃t:ByteArray,ρ 0=str t/\bl t≠[]/\(bl t).all isD=true/\eH t=eH s/\t.size<=1048576,fun ρ _=>match ρ 0 with| .v (.string t)=>t.size|_=>0,⟨s,rfl,h0,hd,rfl,h⟩,?_⟩;rintro ρ H ⟨t,e0,F,O,X,aa⟩;simp only[go_sem,e0];have E:=cF t;refine⟨fun h=>⟨by omega,by have:=of_decide_eq_true h;omega⟩,aB (fun I=>?_) (fun I=>?_)⟩
 . have I : t.size > 1 /\ ((bl t).getD 0 0).toNat = 48 := by
     simp only[Xam,decide_eq_true_eq,Xas]at I;omega
   simp only[go_sem,e0];have Y:bl (t.extract 1 t.size)=(bl t).drop 1:=by rw[fQ,<-E,Xaf]
   have e2:(t.extract 1 t.size).size=t.size-1:=by rw[<-cF,Y,Xbl,E]
   refine⟨⟨by omega,by omega⟩,?_⟩;refine⟨⟨t.extract 1 t.size,rfl,?_,?_,?_,by omega⟩,by show(t.extract 1 t.size).size<t.size;omega⟩
   . intro e
     have:=congrArg List.length e;rw[cF,e2]at this;simp at this;omega
   . rw[Y,Xao]
     intro c hc;exact Xao.1 O c (List.mem_of_mem_drop hc)
   . rw[<-X]
     unfold eH;rw[Y];cases J:bl t with
     | nil=>exact absurd J F
     | cons c r=>
       rw[J]at I;have:=tM [c] r;rw[List.drop_one,List.tail_cons,show c::r=[c]++r from rfl,this];have Z:c.toNat=48:=by simpa using I.2
       simp[gN,Z]
 . simp only[go_sem,e0]
   refine cS ?_;have hR:dK t=true:=by
     unfold dK eK;rw[O,Bool.and_true];have:(bl t != [])=true:=by simpa using F
     rw[this,Xba,Xbc,Xas,bne_iff_ne];by_cases h1:t.size>1
     . refine .inr fun e=>?_
       rw[e]at I;simp[h1]at I;omega
     . have:=Xcy.2 F
       exact .inl (by omega)
   rw[<-X,jC hR]
theorem N9{p q:Nat}(h:p<=q):(dec p).size<=(dec q).size:=by
 rw[gY,gY];rcases Xbe (Lib.decDigits q).length (Lib.decDigits p).length with h1|h1
 . exfalso
   have E:=(iK (n:=q) (k:=(Lib.decDigits q).length) (iE q)).1 (Xag _);have:=(iK (n:=p) (k:=(Lib.decDigits q).length) (iE q)).2 (by omega);omega
 . exact h1
theorem Xy{d:Nat}(E:d<10)(o:List Nat):Lib.decDigits d++txt o=txt (o++[d]):=by
 rw[Lib.decDigits_one E];simp[txt]
theorem Ao(n:Nat):(bl (dec n)).all isD=true:=by rw[gZ];exact tZ n
theorem abS(n:Nat):ofL 10 (dl (bl (dec n)))=n:=by rw[Q3,gZ,oG]
theorem ahW(m n:Nat)(h:n<=m)(hm:(dec m).size<=1048576):PC prog 200 [str (dec m),str (dec n)] (str (dec (m-n))):=by
 have af:=N9 h;have dm:=Ao m;have dn:=Ao n;have vm:=abS m;have vn:=abS n;have lm:=Q0 dm;have ln:=Q0 dn;have zm:=cF (dec m);have zn:=cF (dec n);have ag:0<(dec m).size:=by rw[gY];exact iE m
 have xl:(dl (bl (dec m))).length=(dec m).size:=by rw[Gx];omega
 have yl:(dl (bl (dec n))).length=(dec n).size:=by rw[Gx];omega
 refine pcd Tryz.func200 ?_;unfold Tryz.f200;simp only[gdS];simp only[go_sem];refine⟨fun ρ _=>∃(i c:Nat) (t:ByteArray) (o:List Nat),i<=(dec m).size/\ρ 0=str (dec m)/\ρ 1=str (dec n)/\ρ 5=str t/\ρ 6=int c/\ρ 7=int i/\bl t=txt o/\Lim 10 o/\o.length=i/\c<=1/\ofL 10 o+ofL 10 ((dl (bl (dec n))).take i)=ofL 10 ((dl (bl (dec m))).take i)+10^i*c,fun ρ _=>(dec m).size-aX (ρ 7),
   ⟨0,0,emp,[],Xab _,rfl,rfl,rfl,rfl,rfl,rfl,by simp[Lim],rfl,by omega,by simp[ofL]⟩,?_⟩
 rintro ρ H ⟨i,c,t,o,hi,h0,h1,F,O,I,Y,ho,Z,hc,hv⟩;have ht:t.size=i:=by rw[<-cF,Y];simp[txt,Z]
 simp only[go_sem,h0,h1,F,O,I];refine aB (fun aa=>?_) (fun ab=>?_)
 . have aa:=ltB aa
   have ac:(dl (bl (dec m))).getD i 0<10:=lm.getD (by omega) i;have ad:(dl (bl (dec n))).getD i 0<10:=ln.getD (by omega) i;have ai:=D9 (b:=10) ac ad hc;have J:=Bx (b:=10) ac ad hc;have ae:=FI (b:=10) (x:=dl (bl (dec m))) (y:=dl (bl (dec n))) (c':=if(dl (bl (dec m))).getD i 0<(dl (bl (dec n))).getD i 0+c then 1 else 0) (d:=if(dl (bl (dec m))).getD i 0<(dl (bl (dec n))).getD i 0+c then(dl (bl (dec m))).getD i 0+10-((dl (bl (dec n))).getD i 0+c)else(dl (bl (dec m))).getD i 0-((dl (bl (dec n))).getD i 0+c)) Z hv J.1;simp only[go_sem,h0,h1,F,O,I];refine PC.use (Nz (dec m) dm i (by omega) (by omega)) ?_;simp only[go_sem,h0,h1,F,O,I];refine PC.use (Nz (dec n) dn i (by omega) (by omega)) ?_;generalize (dl (bl (dec m))).getD i 0=a at *;generalize (dl (bl (dec n))).getD i 0=yi at *;have e1:IntKind.i64.wrap (IntKind.i64.wrap ((a:Int)-(yi:Int))-(c:Int))=(a:Int)-yi-c:=by
     rw[show IntKind.i64.wrap ((a:Int)-(yi:Int))=(a:Int)-yi from aW (by omega),aW (by omega)]
   simp only[go_sem,h0,h1,F,O,I,e1];refine bH (fun E H'=>E 0=str (dec m)/\E 1=str (dec n)/\E 5=str t/\E 7=int i/\E 8=int (if a<yi+c then a+10-(yi+c)else a-(yi+c):Nat)/\E 6=int (if a<yi+c then 1 else 0:Nat)) ?_ fun K hK=>aB (fun X=>?_) (fun X=>?_)
   rotate_left
   . have X:a<yi+c:=by simp at X;omega
     have e2:IntKind.i64.wrap ((a:Int)-yi-c+10)=((a+10-(yi+c):Nat):Int):=by rw[aW (by omega)];omega
     simp only[go_sem,h0,h1,F,O,I,e2];exact hK _ _ ⟨by simp only[go_sem,h0],by simp only[go_sem,h1],by simp only[go_sem,F],by simp only[go_sem,I],by simp only[go_sem,if_pos X],by simp only[go_sem,if_pos X];rfl⟩
   . have X:¬a<yi+c:=by simp at X;omega
     simp only[go_sem,h0,h1,F,O,I];refine hK _ _ ⟨by simp only[go_sem,h0],by simp only[go_sem,h1],by simp only[go_sem,F],by simp only[go_sem,I],?_,by simp only[go_sem,if_neg X];rfl⟩;simp only[go_sem,if_neg X]
     congr 2
     omega
   clear h0 h1 F O I;rintro ρ H ⟨h0,h1,F,I,h8,O⟩;simp only[go_sem,h0,h1,F,O,I,h8];generalize (if a<yi+c then a+10-(yi+c)else a-(yi+c))=d at *;refine PC.use (BF d J.2) ?_;have ah:(dec d).size=1:=by rw[gY,yK];exact J.2
   simp only[go_sem,h0,h1,F,O,I,h8,aS (show i<=4611686018427387904 by omega)];refine⟨by show(((dec d).size+t.size:Nat):Int)<=9223372036854775807;omega,?_⟩;exact⟨⟨i+1,_,_,_,aa,rfl,rfl,rfl,by rw[mJ,gZ,Y,Xy J.2],ho.snoc J.2,by simp[Z],by split <;> omega,ae⟩,by simp only[aG];omega⟩
 . have ab:=geB hi ab
   simp only[go_sem,F];obtain⟨_,hV⟩:=He (b:=10) (y:=dl (bl (dec n))) (by decide) ho lm (by omega) (by omega) (by omega) hc (by rw[xl,<-ab];exact hv);refine PC.use (KV t (by omega) (fun e=>by rw[<-cF,e]at ht;simp at ht;omega) (by rw[Y];exact adM ho)) ?_;simp only[go_sem];refine cS ?_;unfold eH;rw[Y,Xu ho,hV,vm,vn]
theorem acI{s:ByteArray}{k:Nat}{c:UInt8}(h:(bl s)[k]?=some c):bl (s.extract k (k+1))=[c]:=by
 rw[fQ,bX h,List.drop_append_of_le_length (by simp;have:=(List.getElem?_eq_some_iff.1 h).1;omega)];simp
theorem YI(m n:Nat):Zo (dec m) (dec n)=iQ m n:=by unfold Zo;rw[lC,lC,bW,bW];rfl
theorem aeA{m n:Nat}:decide (iQ m n>=0)=decide (n<=m):=by
 unfold iQ;rw[decide_eq_decide];split
 . simp;omega
 . split <;> simp <;> omega
theorem Y7(r:Nat){c:UInt8}(F:isD c=true)(s:ByteArray)(E:bl s=[c]):(bl (dec r++s)).all isD=true/\bl (dec r++s)≠[]/\eH (dec r++s)=10*r+(c.toNat-48):=by
 refine⟨?_,?_,?_⟩
 . rw[mJ,E,List.all_append,Ao]
   simp[F]
 . rw[mJ,E];simp
 . unfold eH
   rw[mJ,E,mR,gZ,oG]
theorem Xx{K M R:Nat}(F:M=10^K)(E:R<10*M):(dec R).size<=K+1:=by
 subst F;rw[gY];exact(iK (k:=K+1) (by omega)).2 (by rw[Xbs,Nat.mul_comm];exact E)
theorem anM:∃K,K=4096/\cO=10^K:=⟨ZH,rfl,by unfold cO;rfl⟩
theorem ajK{R:Nat}(E:R<10*cO):(dec R).size<=4097:=by
 obtain⟨K,F,e⟩:=anM;have:=Xx e E;omega
def amW:AV->Nat
 | .v (.string s)=>eH s
 | _=>0
theorem Co(n:Nat):amW (str (dec n))=n:=by show eH (dec n)=n;exact bW n
theorem amR(a b:ByteArray)(ha:a.size<=1048576)(hb:b.size<=1048576):PC prog 161 [str a,str b] (.tup [str (Bw a b).1,str (Bw a b).2.1,int (Bw a b).2.2]):=by
 refine pcd Tryz.func161 ?_;unfold Tryz.f161;simp only[gdS];simp only[go_sem];refine PC.use (Pq a b ha hb) ?_;simp only[go_sem];refine aB (fun h=>?_) (fun h=>?_)
 . have h:jD a b≠0:=by simpa using h
   simp only[go_sem];rw[show Bw a b=(emp,emp,jD a b)from if_neg h];exact .refl _
 have h:jD a b=0:=by simpa using h
 obtain⟨m,n,rfl,rfl,hm,hn⟩:=pY h;rw[show Bw (dec m) (dec n)=if n=0 then(emp,emp,10)else(dec (m/n),dec (m%n),0)by unfold Bw;rw[if_pos h,bW,bW]];simp only[go_sem,qA];refine aB (fun h0=>?_) (fun h0=>?_)
 . have h0:n=0:=rC.1 (nJ.1 h0)
   simp only[go_sem];rw[if_pos h0];exact .refl _
 have h0:n≠0:=fun e=>pJ.1 h0 (by rw[e])
 rw[if_neg h0];have zm:=cF (dec m);have dm:=Ao m;have ah:0<(dec m).size:=by rw[gY];exact iE m
 simp only[go_sem];refine⟨fun ρ _=>∃(k r:Nat) (q:ByteArray),k<=(dec m).size/\ρ 0=str (dec m)/\ρ 1=str (dec n)/\ρ 8=str q/\ρ 9=str (dec r)/\ρ 10=int k/\q.size=k/\(bl q).all isD=true/\r<n/\gN ((bl (dec m)).take k)=gN (bl q)*n+r,fun ρ _=>(dec m).size-aX (ρ 10),
   ⟨0,0,emp,Xab _,by simp only[go_sem],by simp only[go_sem],by simp only[go_sem];rfl,by simp only[go_sem];rw[EP],by simp only[go_sem];rfl,rfl,rfl,by omega,by simp[gN,amA]⟩,?_⟩
 rintro ρ H ⟨k,r,q,hk,E,h1,O,Y,F,hq,ab,hr,hv⟩;simp only[go_sem,E,h1,O,Y,F];refine aB (fun aa=>?_) (fun I=>?_)
 . have aa:=ltB aa
   obtain⟨c,hc⟩:=aQ (l:=bl (dec m)) (k:=k) (by omega);have ac:=Xao.1 dm c (Xad hc);have ad:=acI hc;obtain⟨d1,d2,d3⟩:=Y7 r ac _ ad;have ao:=lM.1 ac;have ak:=dX (Nat.lt_trans hr hn);have aj:((dec m).extract k (k+1)).size=1:=by rw[<-cF,ad];rfl
   simp only[go_sem,E,h1,O,Y,F,aS (show k<=4611686018427387904 by omega),Xan];refine⟨⟨by omega,by omega,by omega⟩,by show(((dec r).size+((dec m).extract k (k+1)).size:Nat):Int)<=9223372036854775807;omega,?_⟩;have ai:=(iB r).2 (Nat.lt_trans hr hn);refine PC.use (KV _ (by rw[ByteArray.size_append];omega) d2 d1) ?_;rw[d3];generalize hR:10*r+(c.toNat-48)=R;have al:R<10*n:=by omega
   have an:=ajK (show R<10*cO by omega);simp only[go_sem,E,h1,O,F];refine⟨fun ρ _=>∃(d r':Nat),ρ 0=str (dec m)/\ρ 1=str (dec n)/\ρ 8=str q/\ρ 10=int k/\ρ 9=str (dec r')/\ρ 11=int d/\d*n+r'=R,fun ρ _=>amW (ρ 9),
     ⟨0,R,by simp only[go_sem,E],by simp only[go_sem,h1],by simp only[go_sem,O],by simp only[go_sem,F],by simp only[go_sem],by simp only[go_sem];rfl,by omega⟩,?_⟩
   clear E h1 O Y F;rintro ρ H ⟨d,r',E,h1,O,F,Y,X,hd⟩;have ag:=N9 (show r'<=R by omega);simp only[go_sem,E,h1,O,Y,F,X];refine PC.use (Rh (dec r') (dec n) (by omega) (dX hn)) ?_;rw[YI];simp only[go_sem,E,h1,O,Y,F,X,aeA];have J:d<10:=by
     rcases Xbe d 10 with h|h
     . exact h
     . have:=Xbm n h
       omega
   have e0:∀{x y:Nat},decide ((y:Int)<=(x:Int))=decide (y<=x):=fun {x y}=>by rw[decide_eq_decide];omega
   refine aB (fun I=>?_) (fun Z=>?_)
   . have I:n<=r':=by have:=of_decide_eq_true I;omega
     simp only[go_sem,E,h1,O,Y,F,X];refine PC.use (ahW r' n I (by omega)) ?_;simp only[go_sem,E,h1,O,Y,F,X,aS (show d<=4611686018427387904 by omega)];refine⟨⟨d+1,r'-n,rfl,rfl,by rw[Nat.add_mul];omega⟩,?_⟩;rw[Co,Co];omega
   . have Z:r'<n:=by have:=of_decide_eq_false Z;omega
     simp only[go_sem,E,h1,O,Y,F,X];refine PC.use (BF d J) ?_;have am:(dec d).size=1:=by rw[gY,yK];exact J
     simp only[go_sem,E,h1,O,Y,F,X,aS (show k<=4611686018427387904 by omega)];refine⟨by show((q.size+(dec d).size:Nat):Int)<=9223372036854775807;omega,?_⟩;refine⟨⟨k+1,r',_,aa,rfl,rfl,rfl,by rw[ByteArray.size_append];omega,?_,Z,?_⟩,by simp only[aG];omega⟩
     . rw[mJ,List.all_append,ab,Ao];rfl
     . rw[bX hc,mR,hv,mJ,gZ,Lib.decDigits_one J,mR,mQ J,show 48+d-48=d by omega,Nat.add_mul,Xcq]
       omega
 . have I:=geB hk I
   simp only[go_sem,O,Y];refine PC.use (KV q (by omega) (fun e=>by rw[<-cF,e]at hq;simp at hq;omega) ab) ?_;simp only[go_sem,O,Y];rw[I,Xaw (by omega),gZ,oG]at hv;have hv:m=eH q*n+r:=hv;have af:m/n=eH q:=by
     rw[hv,Nat.add_comm,Nat.add_mul_div_right _ _ (by omega),Nat.div_eq_of_lt hr,Nat.zero_add]
   have ae:m%n=r:=by
     rw[hv,Nat.add_comm,Nat.add_mul_mod_self_right,Xbn hr]
   rw[af,ae];exact .refl _
theorem amP(a b:ByteArray)(ha:a.size<=1048576)(F:b.size<=1048576):PC prog 106 [str a,str b] (.tup [str (Av a b).1,int (Av a b).2]):=by
 refine pcd Tryz.func106 ?_;unfold Tryz.f106;simp only[gdS];simp only[go_sem];refine PC.use (Pq a b ha F) ?_;simp only[go_sem];refine aB (fun h=>?_) (fun h=>?_)
 . have h:jD a b≠0:=by simpa using h
   simp only[go_sem];rw[show Av a b=(emp,jD a b)from if_neg h];exact .refl _
 have h:jD a b=0:=by simpa using h
 obtain⟨m,n,rfl,rfl,Y,Z⟩:=pY h;rw[show Av (dec m) (dec n)=szN (Nat.gcd m n)by unfold Av;rw[if_pos h,bW,bW]];simp only[go_sem];refine⟨fun ρ _=>∃(x y:Nat),ρ 0=str (dec x)/\ρ 1=str (dec y)/\x<cO/\y<cO/\Nat.gcd m n=Nat.gcd x y,fun ρ _=>amW (ρ 1),⟨m,n,by simp only[go_sem],by simp only[go_sem],Y,Z,rfl⟩,?_⟩;rintro ρ H ⟨x,y,h0,h1,O,J,X⟩;simp only[go_sem,h0,h1,qA];refine aB (fun F=>?_) (fun F=>?_)
 . have E : y ≠ 0 := fun e => by
     rw[e,show eqB (dec 0) (dec 0)=true from nJ.2 rfl]at F;cases F
   simp only[go_sem,h0,h1];refine PC.use (amR (dec x) (dec y) (dX O) (dX J)) ?_;rw[NI O J E];simp only[go_sem,h0,h1];have I:=Nat.mod_lt x (show 0<y by omega);refine⟨⟨y,x%y,rfl,rfl,J,by omega,?_⟩,by rw[Co,Co];exact I⟩;rw[X,Nat.gcd_comm x y,Nat.gcd_rec y x,Nat.gcd_comm]
 . have E : y = 0 := by
     have:eqB (dec y) (dec 0)=true:=by simpa using F
     exact rC.1 (nJ.1 this)
   simp only[go_sem,h0];rw[X,E,Nat.gcd_zero_right,yM O];exact .refl _
theorem Sn(c d:UInt8):(((c.toNat:Nat):Int) == ((d.toNat:Nat):Int))=(c == d):=by
 rw[Xar,Xas,Xas,Int.ofNat_inj,UInt8.toNat_inj]
theorem Cz(s:ByteArray):(decide ((s.size:Int)>0)&&(((bl s).getD 0 0).toNat:Int) == 45)=fJ s:=by
 rw[<-cF];unfold fJ;cases bl s with
 | nil=>rfl
 | cons c r=>
   rw[show decide ((((c::r).length:Nat):Int)>0)=true by simp];simp only[List.getD_cons_zero,List.head?_cons,Xba];rw[show(some c == some (45:UInt8))=(c == 45)from rfl];exact Sn c 45
def stN(s:ByteArray):Nat:=if fJ s=true then 1 else 0
theorem xI(s:ByteArray):bl (dS s)=(bl s).drop (stN s):=by
 unfold dS stN;split
 . exact jE _
 . rw[Xbr]
theorem Kq(s:ByteArray):stN s<=(bl s).length:=by
 unfold stN;split
 . rename_i h
   unfold fJ at h;cases E:bl s with
   | nil=>rw[E]at h;cases h
   | cons c r=>simp
 . omega
theorem KK{s:ByteArray}{c:UInt8}(h1:(bl s)[stN s]?=some c)(J:((bl s).drop (stN s)).all isD=true):fZ s=((c != 48)||bl s == [48]):=by
 obtain⟨Z,hc⟩:=List.getElem?_eq_some_iff.1 h1;have I:bl (dS s)=c::(bl s).drop (stN s+1):=by rw[xI,Xcp Z,hc]
 have X:eqB (dS s) (dec 0)=(c::(bl s).drop (stN s+1) == [48]):=by rw[<-qA,I]
 have J:(c::(bl s).drop (stN s+1)).all isD=true:=by rw[<-I,xI];exact J
 unfold fZ dK eK;rw[X,I];rw[J,Bool.and_true,show((c::(bl s).drop (stN s+1)) != [])=true from rfl,Xba,List.getD_cons_zero];by_cases E:fJ s=true
 . have e2 : (bl s == [48]) = false := by
     unfold fJ at E;cases O:bl s with
     | nil=>rw[O]at E;cases E
     | cons x r=>
       rw[O]at E;have:x=45:=by simpa using E
       subst this;rfl
   rw[E,e2];cases hr:(bl s).drop (stN s+1)with
   | nil=>cases F:(c == 48) <;> simp[bne,F] <;> simpa using F
   | cons y r=>cases F:(c == 48) <;> simp[bne,F]
 . have Y:dS s=s:=if_neg E
   have E:fJ s=false:=by simpa using E
   rw[Y]at I;rw[E,Xcd,Xcr,Bool.and_true,show(bl s == [48])=(c::(bl s).drop (stN s+1) == [48])by rw[<-I]];cases hr:(bl s).drop (stN s+1)with
   | nil=>cases F:(c == 48) <;> simp[bne,F]
   | cons y r=>cases F:(c == 48) <;> simp[bne,F]
theorem Fj(s:ByteArray)(h:s.size<=1048576):PC prog 102 [str s] (boo (fZ s)):=by
 have hs:=cF s;have ac:=Kq s;refine pcd Tryz.func102 ?_;unfold Tryz.f102;simp only[gdS];simp only[go_sem];refine⟨fun h=>⟨by omega,by have:=of_decide_eq_true h;omega⟩,?_⟩;rw[Cz];refine bH (fun Z H'=>Z 0=str s/\Z 3=int (stN s:Nat)) ?_ fun K hK=>aB (fun O=>?_) (fun O=>?_)
 rotate_left
 . simp only[go_sem]
   exact hK _ _ ⟨by simp only[go_sem],by simp only[go_sem];rw[show stN s=1 from if_pos O];rfl⟩
 . simp only[go_sem]
   exact hK _ _ ⟨by simp only[go_sem],by simp only[go_sem];rw[show stN s=0 from if_neg (by rw[O];simp)];rfl⟩
 rintro ρ H ⟨h0,E⟩;simp only[go_sem,h0,E];refine aB (fun O=>?_) (fun O=>?_)
 . simp only[go_sem]
   refine cB ?_;have he:s.size=stN s:=by rw[Xas]at O;omega
   unfold fZ dK eK;rw[xI,Xdc (by omega)];rfl
 have aa:stN s<(bl s).length:=by rw[beq_eq_false_iff_ne]at O;omega
 simp only[go_sem,h0,E];refine⟨fun ρ _=>∃k:Nat,stN s<=k/\k<=(bl s).length/\ρ 0=str s/\ρ 3=int (stN s:Nat)/\ρ 4=int k/\∀c∈((bl s).take k).drop (stN s),isD c=true,fun ρ _=>(bl s).length-aX (ρ 4),⟨stN s,Xag _,by omega,by simp only[go_sem,h0],by simp only[go_sem,E],by simp only[go_sem,E],by rw[Xdc (by simp;omega)];simp⟩,?_⟩;clear h0 E;rintro ρ H ⟨k,ab,hk,h0,E,h4,hz⟩;simp only[go_sem,h0,E,h4];refine aB (fun F=>?_) (fun I=>?_)
 . have F:k<(bl s).length:=by have:=ltB F;omega
   obtain⟨c,X⟩:=aQ F;have hi:=qC X;simp only[go_sem,h0,E,h4,hi,K9];have Y:((bl s).take (k+1)).drop (stN s)=((bl s).take k).drop (stN s)++[c]:=by
     rw[bX X,List.drop_append_of_le_length (by rw[Xax];omega)]
   refine⟨⟨by omega,by omega⟩,fun _=>⟨by omega,by omega⟩,aB (fun J=>?_) (fun J=>?_)⟩
   . simp only[go_sem]
     refine cB ?_;unfold fZ dK eK;rw[xI];rw[SB (k:=k-stN s) (c:=c) (by rw[List.getElem?_drop,show stN s+(k-stN s)=k by omega];exact X) (by simpa using J)];simp
   . simp only[go_sem,h0,E,h4,aS (show k<=4611686018427387904 by omega)]
     refine⟨⟨k+1,by omega,F,rfl,?_⟩,by simp only[aG];omega⟩;rw[Y];intro x hx;rcases Xaq.1 hx with hx|hx
     . exact hz x hx
     . rw[Xak.1 hx];simpa using J
 . have I:k=(bl s).length:=by rw[<-hs]at I;exact geB hk I
   subst I;rw[Xaf]at hz;obtain⟨c,X⟩:=aQ aa;simp only[go_sem,h0,E,h4,qC X];refine⟨⟨by omega,by omega⟩,?_⟩;refine cB ?_;rw[KK X (Kx hz)]
   congr 1
   rw[bne,bne,<-Sn c 48];rfl
theorem Jg(s:ByteArray)(h:s.size<=1048576):PC prog 196 [str s] (int (dS s).size):=by
 have F:=cF s;refine pcd Tryz.func196 ?_;unfold Tryz.f196;simp only[gdS];simp only[go_sem];refine⟨fun h=>⟨by omega,by have:=of_decide_eq_true h;omega⟩,?_⟩;rw[Cz];have J:(dS s).size=s.size-stN s:=by rw[<-cF,xI,Xbl,F]
 have I:=Kq s;refine aB (fun E=>?_) (fun E=>?_)
 . have:stN s=1:=if_pos E
   simp only[go_sem];refine cI ?_;rw[aW (by omega)];omega
 . have:stN s=0:=if_neg (by rw[E];simp)
   simp only[go_sem];exact cI (by omega)
theorem XX(a b:ByteArray)(O:a.size<=1048576)(X:b.size<=1048576):PC prog 157 [str a,str b] (int (lR a b)):=by
 refine pcd Tryz.func157 ?_;unfold Tryz.f157;simp only[gdS];simp only[go_sem];refine PC.use (Fj a (by omega)) ?_;simp only[go_sem];refine⟨_,fun _=>(Fj b (by omega)).q rfl,?_⟩;simp only[go_sem];unfold lR;refine aB (fun F=>?_) (fun F=>?_)
 . simp only[go_sem]
   exact cI (by rw[if_pos F])
 . simp only[go_sem]
   refine PC.use (Jg a O) ?_;simp only[go_sem];refine⟨_,fun _=>(Jg b X).q rfl,?_⟩;simp only[go_sem];have I:decide (((dS a).size:Int)>4096)=decide ((dS a).size>4096):=by rw[decide_eq_decide];omega
   have J:decide (((dS b).size:Int)>4096)=decide ((dS b).size>4096):=by rw[decide_eq_decide];omega
   rw[if_neg (by rw[F];simp),I,J];refine aB (fun E=>?_) (fun E=>?_)
   . simp only[go_sem]
     exact cI (by rw[if_pos E])
   . simp only[go_sem]
     exact cI (by rw[if_neg (by rw[E];simp)])
theorem ahD(l:List Nat)(h:l.length<=4611686018427387904):PC prog 197 [.sl (l.map jN)] (.sl ((mS l).map jN)):=by
 refine pcd Tryz.func197 ?_;unfold Tryz.f197;simp only[gdS];simp only[go_sem];refine⟨fun ρ _=>∃k:Nat,k<=l.length/\ρ 0=.sl (l.map jN)/\ρ 3=int k/\mS (l.take k)=mS l,fun ρ _=>aX (ρ 3),⟨l.length,Xag _,by simp only[go_sem],by simp only[go_sem,Xaa],by rw[Xaf]⟩,?_⟩;rintro ρ H ⟨k,hk,h0,F,J⟩;cases k with
 | zero=>
   have X:mS l=[]:=by rw[<-J];rfl
   have Z:(IntKind.i64.wrap (((0:Nat):Int)-1)).toNat=0:=rfl;rw[X];cases l with
   | nil=>
     simp only[go_sem,h0,F,Z,List.map_nil,List.getD_nil,show decide (((0:Nat):Int)>0)=false from rfl];refine aB (fun I=>by cases I) (fun _=>?_);simp only[go_sem,h0,F];exact⟨⟨by omega,by omega⟩,.refl _⟩
   | cons x l=>
     simp only[go_sem,h0,F,Z,Xbk,List.getD_cons_zero,show decide (((0:Nat):Int)>0)=false from rfl];refine aB (fun I=>by cases I) (fun _=>?_);simp only[go_sem,h0,F];exact⟨⟨by omega,by omega⟩,.refl _⟩
 | succ k=>
 have Y:IntKind.i64.wrap (((k+1:Nat):Int)-1)=(k:Int):=by rw[aW (by omega)];omega
 obtain⟨x,hx⟩:=aQ (show k<l.length by omega);have O:l.take (k+1)=l.take k++[x]:=bX hx;have b2:=inB (show k<l.length by omega);simp only[go_sem,h0,F,Y,aH hx,b2,show decide (((k+1:Nat):Int)>0)=true from decide_eq_true (by omega)];refine aB (fun I=>?_) (fun I=>?_)
 . have E:x=0:=by simpa using I
   simp only[go_sem,h0,F,Y];refine⟨⟨k,by omega,rfl,?_⟩,?_⟩
   . rw[O,vU,if_pos E]at J;exact J
   . simp only[aG];omega
 . have E:x≠0:=by simpa using I
   simp only[go_sem,h0,F];rw[O,vU,if_neg E]at J;rw[<-List.map_take,O,J];exact⟨⟨by omega,by omega⟩,.refl _⟩
abbrev dg(n:Nat):AV:=.sl ((bK 10 n).map jN)
theorem akR{l:List Nat}(E:Lim 10 l)(h:l.length<=4611686018427387904){n:Nat}(F:ofL 10 l=n):PC prog 197 [.sl (l.map jN)] (dg n):=by
 have:=ahD l h
 rwa [J1 (by decide) E F]at this
def upN:AV->Nat
 | .v (.int _ n)=>(n+1).toNat
 | _=>0
theorem Ke(k:IntKind)(n:Int):upN (.v (.int k n))=(n+1).toNat:=(rfl)
theorem ahV(c:UInt8)(l:List UInt8):dl (c::l)=dl l++[c.toNat-48]:=by simp[dl]
theorem akS{k:Nat}(h:k<=4611686018427387904):IntKind.i64.wrap ((k:Int)-1-1)=(k:Int)-1-1:=aW (by omega)
theorem aaH(n:Int)(h:(zed n).size<=1048576):PC prog 158 [str (zed n)] (.tup [boo (decide (n<0)),dg n.natAbs]):=by
 have hs:=cF (zed n);have hr:dK (dS (zed n))=true:=by rw[jY];exact lC _
 have J:=xI (zed n);have an:=Kq (zed n);have I:((bl (zed n)).drop (stN (zed n))).all isD=true:=by rw[<-J,jY];exact Ao _
 have al:stN (zed n)<(bl (zed n)).length:=by
   have h1:0<(bl (dS (zed n))).length:=by rw[jY,gZ];exact iE _
   rw[J,Xbl]at h1;omega
 have hm:(((((bl (zed n)).getD 0 0).toNat:Nat):Int) == 45)=fJ (zed n):=by
   rw[<-Cz,show decide (((zed n).size:Int)>0)=true by simp;omega,Xba]
 refine pcb (fun t=>t == 4) Tryz.func158 ?_;unfold Tryz.f158;simp only[gdS];simp only[go_sem];refine aN fun j hj=>?_
 simp only[go_sem,hm];refine⟨⟨by omega,by omega⟩,?_⟩;refine⟨fun ρ H=>∃(k j:Nat),k<=(bl (zed n)).length/\ρ 0=str (zed n)/\ρ 5=boo (fJ (zed n))/\ρ 4=.os j/\ρ 6=int ((k:Int)-1)/\H j=some (dA (dl ((bl (zed n)).drop (max k (stN (zed n)))))),fun ρ _=>upN (ρ 6),
   ⟨(bl (zed n)).length,j,Xag _,by simp only[go_sem],by simp only[go_sem],by simp only[go_sem],by simp only[go_sem];rw[hs,aW (by omega)],?_⟩,?_⟩
 . rw[aA,Xdc (by omega)];rfl
 clear hj j;rintro ρ H ⟨k,j,hk,h0,Z,Y,h6,Rj⟩;simp only[go_sem,h0,Z,Y,h6];refine aB (fun F=>?_) (fun ai=>?_)
 . have F:0<k:=by have:=of_decide_eq_true F;omega
   obtain⟨c,O⟩:=aQ (l:=bl (zed n)) (k:=k-1) (by omega);have ei:((k:Int)-1).toNat=k-1:=by omega
   have ae:(bl (zed n)).drop (k-1)=c::(bl (zed n)).drop k:=by
     obtain⟨af,e⟩:=List.getElem?_eq_some_iff.1 O;rw[Xcp af,e,show k-1+1=k by omega]
   simp only[go_sem,h0,Z,Y,h6,ei,qC O];refine⟨⟨by omega,by omega⟩,?_⟩;by_cases aa:k-1<stN (zed n)
   . have E : fJ (zed n) = true := by
       unfold stN at aa;split at aa
       . assumption
       . omega
     have ab:stN (zed n)=1:=if_pos E;have aj:k=1:=by omega
     subst aj;have ad:c=45:=by
       unfold fJ at E;cases X:bl (zed n)with
       | nil=>rw[X]at E;cases E
       | cons x r=>
         rw[X]at E O;have h1:x=45:=by simpa using E
         have h2:x=c:=by simpa using O
         rw[<-h2,h1]
     subst ad;refine aB (fun X=>by cases X) (fun _=>?_);simp only[go_sem,h0,Z,Y,h6];refine⟨⟨0,j,by omega,rfl,rfl,?_⟩,?_⟩
     . rw[Rj,ab];rfl
     . simp only[Ke];decide
   . have ak : isD c = true := Xao.1 I c (by
       refine Xad (i:=k-1-stN (zed n)) ?_;rw[List.getElem?_drop,show stN (zed n)+(k-1-stN (zed n))=k-1 by omega];exact O)
     have ah:=lM.1 ak;refine aB (fun _=>?_) (fun X=>?_)
     rotate_left
     . exfalso
       have:c.toNat=45:=by
         have:((c.toNat:Int) != 45)=false:=X;rw[bne_eq_false_iff_eq]at this;omega
       omega
     simp only[go_sem,h0,Z,Y,h6,ei,qC O];refine⟨⟨by omega,by omega⟩,?_⟩;have ag:IntKind.i64.wrap (IntKind.u8.wrap ((c.toNat:Int)-48))=((c.toNat-48:Nat):Int):=by rw[u8w ah.1 (by omega),aW (by omega)]
     rw[ag];refine bG Rj ⟨rfl,rfl⟩ ⟨rfl,trivial⟩ (by simp only[dA,Xaa,Gx,Xbl,Xac,List.length_nil];omega) (fun j' am=>?_);simp only[go_sem,h0,Z,Y,h6,akS (show k<=4611686018427387904 by omega)];refine⟨⟨k-1,j',by omega,rfl,?_,?_⟩,?_⟩
     . rw[show(k:Int)-1-1=((k-1:Nat):Int)-1 by omega]
     . rw[show max k (stN (zed n))=k by omega,show max (k-1) (stN (zed n))=k-1 by omega,ae,ahV]
       exact vE
     . simp only[Ke];omega
 . have F:k=0:=by have:=of_decide_eq_false ai;omega
   subst F;simp only[go_sem,Z,Y];rw[Nat.max_eq_right (by omega)]at Rj;have ac:=Q0 I;refine PC.useF [j] (.cons _ _ _ _ (.row _ _ _ (by simp only[Xak,if_true];exact Rj) (ConvE.refl _)) .nil) (akR (n:=n.natAbs) ac (by rw[Gx,Xbl];omega) (by rw[Q3,<-J,jY,gZ,oG])) ?_;simp only[go_sem,wX];exact .refl _
def Jh(l:List UInt8):Row:=⟨5,1,l.map fun c=>[.v (.int .u8 (c.toNat:Nat))]⟩
theorem aaW(l:List UInt8):rF (l.map fun c=>[.v (.int .u8 (c.toNat:Nat))])=some (l.map fun c=>((c.toNat:Nat):Int)):=by
 induction l with
 | nil=>rfl
 | cons c l ih=>simp only[Xbk,rF,ih,Option.map_some]
theorem We(l:List UInt8):bl (strOfNums (l.map fun c=>((c.toNat:Nat):Int)))=l:=by
 rw[strOfNums,jE,List.map_map]
 conv=>rhs;rw[<-List.map_id l]
 refine List.map_congr_left fun c _=>?_
 simp
theorem aiF(m:Bool)(l:List Nat)(hl:Lim 10 l)(h:l.length<=1048576):PC prog 159 [boo m,.sl (l.map jN)] (str (zed (sg m (ofL 10 l)))):=by
 have ab:=akR hl (by omega) rfl;have O:=eF (b:=10) (by decide) (ofL 10 l);have ag:(bK 10 (ofL 10 l)).length<=l.length:=mN (by decide) (oH (by decide) hl);have af:=eO (b:=10) (by decide) (ofL 10 l);refine pcb (fun t=>t == 5||t == 32) Tryz.func159 ?_;unfold Tryz.f159;simp only[gdS];simp only[go_sem];refine PC.use ab ?_;generalize ofL 10 l=n at *;simp only[go_sem,Xaa];refine aB (fun I=>?_) (fun I=>?_)
 . have h0 : n = 0 := by
     have:(bK 10 n).length=0:=by rw[Xas]at I;omega
     exact(rZ (by decide)).1 (List.length_eq_zero_iff.1 this)
   simp only[go_sem];refine cS ?_;rw[h0,EP];unfold sg;split <;> exact(gW 0).symm
 have h0:n≠0:=fun e=>by rw[e,eZ]at I;cases I
 simp only[go_sem];refine aN fun j hj=>?_
 simp only[go_sem];refine bH (fun J H'=>∃j,J 1=dg n/\J 5=.os j/\H' j=some (Jh (if m=true then[45]else[]))) ?_ fun K hK=>aB (fun I=>?_) (fun I=>?_)
 rotate_left
 . simp only[go_sem]
   refine bG (aA _ _ _) ⟨rfl,rfl⟩ ⟨rfl,trivial⟩ (by simp) (fun j' ad=>?_);simp only[go_sem];exact hK _ _ ⟨j',by simp only[go_sem],by simp only[go_sem],by rw[aA,if_pos I];rfl⟩
 . simp only[go_sem]
   exact hK _ _ ⟨j,by simp only[go_sem],by simp only[go_sem],by rw[aA,if_neg (by rw[I];simp)];rfl⟩
 clear hj j;rintro ρ H ⟨j,h1,F,X⟩;simp only[go_sem,h1,F,Xaa];refine⟨fun ρ H=>∃(k j:Nat),k<=(bK 10 n).length/\ρ 1=dg n/\ρ 5=.os j/\ρ 6=int ((k:Int)-1)/\H j=some (Jh ((if m=true then[45]else[])++txt ((bK 10 n).drop k))),fun ρ _=>upN (ρ 6),
   ⟨(bK 10 n).length,j,Xag _,by simp only[go_sem,h1],by simp only[go_sem,F],by simp only[go_sem,h1,Xaa];rw[aW (by omega)],by rw[List.drop_length];simpa[txt]using X⟩,?_⟩
 clear h1 F X j;rintro ρ H ⟨k,j,hk,h1,F,h6,X⟩;simp only[go_sem,h1,F,h6];refine aB (fun E=>?_) (fun ac=>?_)
 . have E:0<k:=by have:=of_decide_eq_true E;omega
   obtain⟨x,hx⟩:=aQ (l:=bK 10 n) (k:=k-1) (by omega);have ei:((k:Int)-1).toNat=k-1:=by omega
   have Y:x<10:=O x (Xad hx);have Z:(bK 10 n).drop (k-1)=x::(bK 10 n).drop k:=by
     obtain⟨aa,e⟩:=List.getElem?_eq_some_iff.1 hx;rw[Xcp aa,e,show k-1+1=k by omega]
   have b1:0<=(k:Int)-1/\(k:Int)-1<((bK 10 n).length:Nat):=by omega
   simp only[go_sem,h1,F,h6,ei,aH hx,b1,Xaa];have ew:IntKind.u8.wrap (IntKind.i64.wrap (48+(x:Int)))=(((UInt8.ofNat (48+x)).toNat:Nat):Int):=by
     rw[mQ Y,show IntKind.i64.wrap (48+(x:Int))=48+(x:Int)from aW (by omega),show IntKind.u8.wrap (48+(x:Int))=(48+(x:Int))%256 from rfl];omega
   rw[ew];have ae:∀(p q:List UInt8),(Jh (p++q)).es.length=p.length+q.length:=fun p q=>by simp[Jh]
   refine bG X ⟨rfl,rfl⟩ ⟨rfl,trivial⟩ ?_ (fun j' ad=>?_)
   . rw[ae]
     have h2:(if m=true then[45]else[]:List UInt8).length<=1:=by split <;> simp
     simp only[txt,List.length_reverse,Xaa,Xbl,Xac,List.length_nil];omega
   simp only[go_sem,h1,F,h6,akS (show k<=4611686018427387904 by omega)];refine⟨⟨k-1,j',by omega,rfl,?_,?_⟩,?_⟩
   . rw[show(k:Int)-1-1=((k-1:Nat):Int)-1 by omega]
   . rw[aA,Z]
     simp only[Jh,txt,Xbk,List.reverse_cons,Xat,List.map_nil,Xav]
   . simp only[Ke];omega
 . have E:k=0:=by have:=of_decide_eq_false ac;omega
   subst E;simp only[go_sem,F];refine Ae (by simp only[go_sem,F]) X fun Hr _ _=>?_
   simp only[go_sem,Jh,aaW];refine cS (lB ?_);rw[We,HF h0];unfold sg;cases m with
   | true=>rw[if_pos rfl,if_pos rfl,Ct (by omega),jE];rfl
   | false=>rw[if_neg (by simp),if_neg (by simp),gW,gZ];rfl
end Go.Proofs.YtdlijlecpopadaaGreatDoor.Nu
end
section
namespace Go.Proofs.YtdlijlecpopadaaGreatDoor.Nu
open Go.Aw Go.Aw.D Go.Proofs Ty Go.Nu
end Go.Proofs.YtdlijlecpopadaaGreatDoor.Nu
end
section
namespace Go.Proofs.YtdlijlecpopadaaGreatDoor.Nu
open Go.Proofs.Tryz(prog)
open Go.Aw Go.Aw.D Go.Proofs Ty Go.Nu
theorem VL(m:Nat):(bK 10 m).length<=(dec m).size:=by
 by_cases h:m=0
 . rw[h,eZ];simp
 . have:=congrArg List.length (HF h)
   rw[gY,<-this];simp[txt]
theorem UN{m:Nat}(h:m<cO):(bK 10 m).length<=4096:=by
 have h1:=VL m;have E:=(iB m).2 h;omega
theorem acW(m:Bool)(n:Nat)(h:(bK 10 n).length<=1048576):PC prog 159 [boo m,dg n] (str (zed (sg m n))):=by
 have:=aiF m (bK 10 n) (eF (by decide) n) h
 rwa [eO (by decide)]at this
theorem VW{s:ByteArray}:lR s s=0->∃n:Int,s=zed n/\n.natAbs<cO:=fun h=>by
 obtain⟨m,n,e,_,E,_⟩:=vI h;exact⟨m,e,E⟩
theorem aoX(s:ByteArray)(h:s.size<=1048576):PC prog 105 [str s] (.tup (if lR s s=0 then[str (dec (kL s).natAbs),int 0]else[str emp,int (lR s s)])):=by
 have E:=XX s s h h;by_cases F:lR s s=0
 . rw[if_pos F]
   rw[F]at E;obtain⟨n,rfl,J⟩:=VW F;have O:=UN J;refine pcd Tryz.func105 ?_;unfold Tryz.f105;simp only[gdS];simp only[go_sem];refine PC.use E ?_;simp only[go_sem];refine aB (fun I=>by cases I) (fun _=>?_);simp only[go_sem];refine PC.use (aaH n h) ?_;simp only[go_sem];refine PC.use (acW false n.natAbs (by omega)) ?_;simp only[go_sem];rw[dM,show sg false n.natAbs=((n.natAbs:Nat):Int)from rfl,gW];exact .refl _
 . rw[if_neg F]
   refine pcd Tryz.func105 ?_;unfold Tryz.f105;simp only[gdS];simp only[go_sem];refine PC.use E ?_;simp only[go_sem];refine aB (fun _=>?_) (fun I=>absurd (by simpa using I) F);simp only[go_sem];exact .refl _
end Go.Proofs.YtdlijlecpopadaaGreatDoor.Nu
end
section
namespace Go.Proofs.YtdlijlecpopadaaGreatDoor.Nu
open Go.Aw Go.Aw.D Go.Proofs Ty Go.Nu
end Go.Proofs.YtdlijlecpopadaaGreatDoor.Nu
end
section
namespace Go.Proofs.YtdlijlecpopadaaGreatDoor.Nu
open Go.Proofs.Tryz(prog)
open Go.Aw Go.Aw.D Go.Proofs Ty Go.Nu
theorem IZ(s:ByteArray)(h:s.size<=1048576):PC prog 104 [str s] (int (dS s).size):=by
 have F:=cF s;refine pcd Tryz.func104 ?_;unfold Tryz.f104;simp only[gdS];simp only[go_sem];refine⟨fun h=>⟨by omega,by have:=of_decide_eq_true h;omega⟩,?_⟩;rw[Cz];have J:(dS s).size=s.size-stN s:=by rw[<-cF,xI,Xbl,F]
 have I:=Kq s;refine aB (fun E=>?_) (fun E=>?_)
 . have:stN s=1:=if_pos E
   simp only[go_sem];refine cI ?_;rw[aW (by omega)];omega
 . have:stN s=0:=if_neg (by rw[E];simp)
   simp only[go_sem];exact cI (by omega)
theorem aAV{l:List UInt8}{k:Nat}{c:UInt8}(I:∀x∈l.take k,(x != dL)=true)(F:l[k]?=some c)(h:c=dL):l.any (· == dL)=true/\l.takeWhile (· != dL)=l.take k/\(l.dropWhile (· != dL)).drop 1=l.drop (k+1):=by
 obtain⟨J,e⟩:=List.getElem?_eq_some_iff.1 F;have E:l=l.take k++dL::l.drop (k+1):=by
   conv=>lhs;rw[<-Xcz k l]
   rw[Xcp J,e,h]
 refine⟨Xau.2 ⟨c,Xad F,by simp[h]⟩,?_,?_⟩
 . conv=>lhs;rw[E]
   exact I7 I
 . conv=>lhs;rw[E]
   rw[Hd I];rfl
theorem Yi(s:ByteArray)(h:s.size<=1048576):PC prog 101 [str s] (.tup [str (gU s),str (gJ s),boo (kK s)]):=by
 have Z:=cF s;refine pcd Tryz.func101 ?_;unfold Tryz.f101;simp only[gdS];simp only[go_sem];refine⟨fun ρ _=>∃k:Nat,k<=(bl s).length/\ρ 0=str s/\ρ 5=int k/\∀c∈(bl s).take k,(c != dL)=true,fun ρ _=>(bl s).length-aX (ρ 5),⟨0,Xab _,rfl,rfl,by simp⟩,?_⟩;rintro ρ H ⟨k,hk,h0,X,O⟩;simp only[go_sem,h0,X];refine aB (fun F=>?_) (fun I=>?_)
 . have F:k<(bl s).length:=by have:=ltB F;omega
   obtain⟨c,Y⟩:=aQ F;simp only[go_sem,h0,X,qC Y];refine⟨⟨by omega,by omega⟩,?_⟩;rw[show(((c.toNat:Nat):Int) == 47)=(c == dL)from Sn c dL];refine aB (fun J=>?_) (fun J=>?_)
   . have J:c=dL:=by simpa using J
     obtain⟨t1,t2,t3⟩:=aAV O Y J;have e1:s.extract 0 k=gU s:=lB (by rw[fQ,Xbr,<-t2];exact(jE _).symm);have E:kK s=true:=t1;have e2:s.extract (k+1) s.size=gJ s:=lB (by
       rw[fQ,<-Z,Xaf,<-t3];unfold gJ;rw[if_pos E];exact(jE _).symm)
     simp only[go_sem];refine fV (by rfl) (by kernel_rfl) ?_;simp only[go_sem,h0,X,aS (show k<=4611686018427387904 by omega),Xan,e1,e2];rw[E];exact⟨⟨by omega,by omega⟩,⟨by omega,by omega⟩,.refl _⟩
   . have J:c≠dL:=by simpa using J
     simp only[go_sem,h0,X,aS (show k<=4611686018427387904 by omega)];exact⟨⟨k+1,F,rfl,vF Y (by simpa using J) O⟩,by simp only[aG];omega⟩
 . have I:k=(bl s).length:=by rw[<-Z]at I;exact geB hk I
   subst I;rw[Xaf]at O;have E:kK s=false:=Bj O;simp only[go_sem,h0];rw[E,Iq E,MT E,<-BA];exact .refl _
theorem uY(s:ByteArray)(h:s.size<=1048576):PC prog 53 [str s] (boo (cV s)):=by
 have hn:=Jc s;have hd:=IE s;have h1:(1:Nat)<=1048576:=by omega
 refine pcd Tryz.func53 ?_;unfold Tryz.f53;simp only[gdS];simp only[go_sem];refine PC.use (Yi s h) ?_;simp only[go_sem];refine PC.use (Fj (gU s) (by omega)) ?_;simp only[go_sem];refine⟨_,fun _=>(zQ (gJ s) (by omega)).q rfl,?_⟩;simp only[go_sem];refine⟨_,fun _=>(IZ (gU s) (by omega)).q rfl,?_⟩;simp only[go_sem];refine⟨_,fun _=>(IZ (gJ s) (by omega)).q rfl,?_⟩;simp only[go_sem];refine aB (fun I=>?_) (fun I=>?_)
 . simp only[go_sem]
   refine cB ?_;by_cases F:dK (gJ s)=true
   . refine(FE ?_).symm
     rw[F]at I;simpa using I
   . unfold cV
     rw[show dK (gJ s)=false by simpa using F];simp
 have F:dK (gJ s)=true:=by
   simp only[Xai,Xcb]at I;exact I.1.1.2
 have O:(!fZ (gU s)||decide (((dS (gU s)).size:Int)>4096)||decide (((dS (gJ s)).size:Int)>4096))=false:=by
   rw[F]at I;simpa using I
 obtain⟨f1,X,f3,Y⟩:=zS O F;simp only[go_sem];refine aB (fun J=>?_) (fun J=>?_)
 . simp only[go_sem]
   refine cB ?_;have h0:kK s=false:=by simpa using J
   unfold cV;rw[f1,h0];rfl
 have h0:kK s=true:=by simpa using J
 simp only[go_sem,qA,GF];refine aB (fun E=>?_) (fun E=>?_)
 . simp only[go_sem]
   refine cB ?_;unfold cV;rw[h0];simp only[Xbc]at E;rcases E with(E|E)|E <;> simp[E]
 simp only[Xai]at E;obtain⟨⟨h5,h3⟩,h4⟩:=E;have v0:eH (gJ s)≠0:=fun e=>pJ.1 h3 (by rw[<-jC F,e])
 have v1:eH (gJ s)<cO:=(vW F).1 Y;have hE:lR (gU s) (gU s)=0:=by
   unfold lR;rw[X];simp;omega
 have ha:=aoX (gU s) (by omega);rw[if_pos hE]at ha;have Z:(kL (gU s)).natAbs<cO:=by
   have:=sF (kL (gU s));rw[Bt X]at this;exact this.1 f3
 have aa:=jC F;have hg:=amP (dec (kL (gU s)).natAbs) (gJ s) (dX Z) (by omega);have e:Av (dec (kL (gU s)).natAbs) (gJ s)=(dec (Nat.gcd (kL (gU s)).natAbs (eH (gJ s))),0):=by
   unfold Av;rw[if_pos (EM (lC _) F ((iB _).2 Z) Y),bW,yM (Xbb (Nat.gcd_le_right _ (by omega)) v1)]
 rw[e]at hg;simp only[go_sem];refine PC.use ha ?_;simp only[go_sem];refine PC.use hg ?_;simp only[go_sem,GF];refine cB ?_;unfold cV;rw[f1,h0,h3,h4,h5];simp only[Xbt,Xba,Xce,Xcr,Xbu];rw[Xar,nJ,rC,Xas]
end Go.Proofs.YtdlijlecpopadaaGreatDoor.Nu
end
section
namespace Go.Proofs.YtdlijlecpopadaaGreatDoor.Nu
open Go.Aw Go.Aw.D Go.Proofs Ty Go.Nu
end Go.Proofs.YtdlijlecpopadaaGreatDoor.Nu
end
