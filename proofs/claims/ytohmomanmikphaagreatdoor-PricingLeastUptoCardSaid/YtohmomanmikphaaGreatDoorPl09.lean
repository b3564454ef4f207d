import Derived.Test.YtohmomanmikphaaGreatDoorPl08
set_option linter.unusedSimpArgs false
set_option linter.unusedVariables false
set_option maxRecDepth 100000
section
namespace Go.Proofs.YtohmomanmikphaaGreatDoor.Nu
open Go.Proofs.Tryz(prog)
open Go.Aw Go.Aw.D Go.Proofs Ty Go.Nu
theorem Ha{P:Program}{G:_}{t:TypeId}{a b:ByteArray}{k:AV->Prop}:gD P G .lss t (.v (.string a)) (.v (.string b)) k=k (.v (.bool (Op.bytesLess a.toList b.toList))):=(rfl)
attribute [go_sem ↓] Ha
attribute [go_sem] Ha
theorem ajO(s:ByteArray):s.toList=bl s:=ByteArray.toList_eq s
theorem Lp:∀{l r:List UInt8},l.length=r.length->Op.bytesLess l r=decide (Lib.compareBytes l r= -1)
 | [],[],_=>rfl
 | [],_::_,h=>by simp at h
 | _::_,[],h=>by simp at h
 | a::l,b::r,h=>by
   simp only[Xad,Nat.add_right_cancel_iff]at h;have ih:=Lp h;rw[Op.bytesLess,Lib.compareBytes,ih];by_cases h1:a<b
   . simp[h1]
   . by_cases u:b<a
     . have : (a == b) = false := by
         rw[beq_eq_false_iff_ne];rintro rfl;exact absurd u h1
       simp[h1,u,this]
     . have : a = b := by
         rw[UInt8.lt_iff_toNat_lt]at h1 u;exact UInt8.toNat_inj.1 (by omega)
       subst this;simp
theorem XS{m n:Nat}(h:(dec m).size=(dec n).size):Op.bytesLess (bl (dec m)) (bl (dec n))=decide (m<n):=by
 have E:=iA m;have u:=iA n;rw[gO,gO,Lp (by omega),CE (sG m) (sG n) (by omega),nE,nE,decide_eq_decide];unfold fR;split
 . simp;omega
 . split <;> simp <;> omega
theorem xQ(s:ByteArray)(h:s.size<=4611686018427387904):PC prog 127 [str s] (boo (dC s)):=by
 have T:=cF s;refine pcd Tryz.func127 ?_;unfold Tryz.f127;simp only[gdS];simp only[go_sem];refine⟨fun h=>⟨by omega,by have:=of_decide_eq_true h.2;omega⟩,?_⟩;have I:((s.size:Int) == 0||decide ((s.size:Int)>1)&&((bl s).getD 0 0).toNat == (48:Int))= !(bl s != []&&((bl s).length == 1||(bl s).getD 0 0 != 48)):=by
   rw[<-T];cases bl s with
   | nil=>rfl
   | cons c r=>
     have e1:(((c.toNat:Nat):Int) == 48)=(c == 48):=by
       rw[Xax,Xaw,Xaw,<-UInt8.toNat_inj];exact Int.ofNat_inj (n:=48)
     simp only[List.getD_cons_zero,e1];cases r with
     | nil=>simp
     | cons c2 r=>
       have h0:(((c::c2::r).length:Int) == 0)=false:=by simp;omega
       have h1:decide (((c::c2::r).length:Int)>1)=true:=by simp;omega
       rw[h0,h1,show((c::c2::r) != [])=true from rfl,show((c::c2::r).length == 1)=false from rfl];cases h:(c == 48) <;> simp[bne,h]
 rw[I];refine aA (fun J=>?_) (fun J=>?_)
 . simp only[go_sem]
   refine cB ?_;unfold dC eD;rw[Xbp]at J;rw[J];rfl
 rw[Xbl]at J;simp only[go_sem];refine⟨fun ρ _=>∃k:Nat,k<=(bl s).length/\ρ 0=str s/\ρ 3=int k/\∀c∈(bl s).take k,isD c=true,fun ρ _=>(bl s).length-aT (ρ 3),⟨0,Xab _,rfl,rfl,by simp⟩,?_⟩;rintro ρ H ⟨k,Z,h0,O,M⟩;simp only[go_sem,h0,O];refine aA (fun u=>?_) (fun E=>?_)
 . have u:k<(bl s).length:=by have:=ltB u;omega
   obtain⟨c,I⟩:=aN u;have hi:=pD I;simp only[go_sem,h0,O,hi,JO];refine⟨⟨by omega,by omega⟩,fun _=>⟨by omega,by omega⟩,aA (fun F=>?_) (fun F=>?_)⟩
   . simp only[go_sem]
     refine cB ?_;unfold dC eD;rw[QS I (by simpa using F),Bool.and_false]
   . simp only[go_sem,h0,O,aP (show k<=4611686018427387904 by omega)]
     exact⟨⟨k+1,u,rfl,iS I (by simpa using F) M⟩,by simp only[aE];omega⟩
 . have E:k=(bl s).length:=by rw[<-T]at E;exact geB Z E
   subst E;rw[Xag]at M;simp only[go_sem];refine cB ?_;unfold dC eD;rw[J,JG M];rfl
def VL(a b:ByteArray):Int:=if(dC a&&dC b)=true then fR (dU a) (dU b)else 0
theorem QO(a b:ByteArray)(ha:a.size<=1048576)(I:b.size<=1048576):PC prog 255 [str a,str b] (int (VL a b)):=by
 refine pcd Tryz.func255 ?_;unfold Tryz.f255;simp only[gdS];simp only[go_sem];refine PC.use (xQ a (by omega)) ?_;simp only[go_sem];refine⟨_,fun _=>(xQ b (by omega)).q rfl,?_⟩;simp only[go_sem];refine aA (fun E=>?_) (fun E=>?_)
 . simp only[go_sem]
   refine cI ?_;unfold VL;split
   . rename_i J
     simp only[Xap]at J;rw[J.1,J.2]at E;have:a=b:=jQ.1 (by simpa[eqB]using E);rw[this,nZ rfl]
   . rfl
 have E:dC a=true/\dC b=true/\eqB a b=false:=by
   simp only[Xak,Xbl]at E;exact⟨E.1.1,E.1.2,E.2⟩
 obtain⟨h1,F,M⟩:=E;rw[show VL a b=fR (dU a) (dU b)from if_pos (by rw[h1,F];rfl)];rw[<-iB h1,<-iB F,kW]at *;generalize dU a=m at *;generalize dU b=n at *;have Z:m≠n:=fun e=>M (by rw[e])
 have hm:=iA m;have hn:=iA n;have u:∀{p q:Nat},(Lib.decDigits p).length<(Lib.decDigits q).length->p<q:=fun {p q} h=>by
   have h1:=(jE (n:=p) (k:=(Lib.decDigits p).length) (gL p)).1 (Xaf _);rcases Xar p q with F|F
   . exact F
   . have:=(jE (n:=q) (k:=(Lib.decDigits p).length) (gL p)).2 (by omega)
     omega
 simp only[go_sem,ajO];have T:(decide (((dec m).size:Int)<(dec n).size)||((dec m).size:Int) == (dec n).size&&Op.bytesLess (bl (dec m)) (bl (dec n)))=decide (m<n):=by
   by_cases h1:(dec m).size=(dec n).size
   . rw[XS h1,h1]
     simp
   . rcases Xar (dec m).size (dec n).size with F|F
     . have:=u (p:=m) (q:=n) (by omega)
       simp[this];omega
     . have:=u (p:=n) (q:=m) (by omega)
       have M:¬m<n:=by omega
       have O:(((dec m).size:Int) == (dec n).size)=false:=by simp;omega
       rw[O];simp[M];omega
 rw[T];refine aA (fun I=>?_) (fun I=>?_)
 . have:=of_decide_eq_true I
   simp only[go_sem];exact cI (by rw[bU,bU,gV (by omega)])
 . have:=of_decide_eq_false I
   simp only[go_sem];exact cI (by rw[bU,bU,gT (by omega)])
theorem Ls(a b:ByteArray)(M:a.size<=1048576)(J:b.size<=1048576):PC prog 200 [str a,str b] (int (iI a b)):=by
 refine pcd Tryz.func200 ?_;unfold Tryz.f200;simp only[gdS];simp only[go_sem];refine PC.use (xQ a (by omega)) ?_;simp only[go_sem];refine⟨_,fun _=>(xQ b (by omega)).q rfl,?_⟩;simp only[go_sem];unfold iI;refine aA (fun u=>?_) (fun u=>?_)
 . simp only[go_sem]
   exact cI (by rw[if_pos u])
 . simp only[go_sem]
   have I:decide ((a.size:Int)>4096)=decide (a.size>4096):=by rw[decide_eq_decide];omega
   have F:decide ((b.size:Int)>4096)=decide (b.size>4096):=by rw[decide_eq_decide];omega
   rw[if_neg (by rw[u];simp),I,F];refine aA (fun E=>?_) (fun E=>?_)
   . simp only[go_sem]
     exact cI (by rw[if_pos E])
   . simp only[go_sem]
     exact cI (by rw[if_neg (by rw[E];simp)])
theorem A0(d:Nat)(E:d<10):PC prog 257 [int d] (str (dec d)):=by
 refine pcd Tryz.func257 ?_;unfold Tryz.f257;simp only[gdS];simp only[go_sem];have F:IntKind.i64.wrap ((d:Int)+1)=((d+1:Nat):Int):=aP (by omega);rw[F];refine⟨⟨by omega,by omega,by show((d+1:Nat):Int)<=10;omega⟩,?_⟩;refine cS (jC ?_);rw[eQ,gO,Lib.decDigits_one E];have u:∀e:Fin 10,(List.take (e.val+1) (bl ⟨#[48,49,50,51,52,53,54,55,56,57]⟩)).drop e.val=[UInt8.ofNat (48+e.val)]:=by decide
 exact u ⟨d,E⟩
theorem avR{l:List UInt8}{i:Nat}(h:i<l.length):(dl l).getD i 0=(l.getD (l.length-1-i) 0).toNat-48:=by
 have u:l.length-1-i<l.length:=by omega
 simp only[dl,List.getD,List.getElem?_reverse (show i<(l.map fun c=>c.toNat-48).length by simpa using h),Xaa,List.getElem?_map,List.getElem?_eq_getElem u,Option.map_some,Option.getD_some]
theorem Mu(s:ByteArray)(M:(bl s).all isD=true)(i:Nat)(h:s.size<=1048576)(T:i<=1048576):PC prog 294 [str s,int i] (int ((dl (bl s)).getD i 0:Nat)):=by
 have F:=cF s;refine pcd Tryz.func294 ?_;unfold Tryz.f294;simp only[gdS];simp only[go_sem];refine aA (fun E=>?_) (fun E=>?_)
 . simp only[go_sem]
   refine cI ?_;have:=of_decide_eq_true E;have J:(dl (bl s)).getD i 0=0:=by
     simp only[List.getD,List.getElem?_eq_none (show(dl (bl s)).length<=i by rw[Fp];omega),Option.getD_none]
   rw[J];rfl
 have E:i<s.size:=by have:=of_decide_eq_false E;omega
 have O:IntKind.i64.wrap (IntKind.i64.wrap ((s.size:Int)-1)-(i:Int))=((s.size-1-i:Nat):Int):=by
   rw[show IntKind.i64.wrap ((s.size:Int)-1)=(s.size:Int)-1 from aR (by omega),aR (by omega)];omega
 obtain⟨c,u⟩:=aN (l:=bl s) (k:=s.size-1-i) (by omega);have I:=kS.1 (Xao.1 M c (Xae u));simp only[go_sem,O,Xbc,pD u,u8w I.1 (by omega)];refine⟨by omega,?_⟩;refine cI ?_;rw[avR (by omega),F,pD u,aR (by omega)]
theorem JK(s:ByteArray)(h:s.size<=1048576)(h0:bl s≠[])(hd:(bl s).all isD=true):PC prog 254 [str s] (str (dec (dU s))):=by
 refine pcd Tryz.func254 ?_;unfold Tryz.f254;simp only[gdS];simp only[go_sem];refine⟨fun ρ _=>∃t:ByteArray,ρ 0=str t/\bl t≠[]/\(bl t).all isD=true/\dU t=dU s/\t.size<=1048576,fun ρ _=>match ρ 0 with| .v (.string t)=>t.size|_=>0,⟨s,rfl,h0,hd,rfl,h⟩,?_⟩;rintro ρ H ⟨t,T,E,I,J,aa⟩;simp only[go_sem,T];have u:=cF t;refine⟨fun h=>⟨by omega,by have:=of_decide_eq_true h;omega⟩,aA (fun F=>?_) (fun F=>?_)⟩
 . have F : t.size > 1 /\ ((bl t).getD 0 0).toNat = 48 := by
     simp only[Xap,decide_eq_true_eq,Xaw]at F;omega
   simp only[go_sem,T];have Z:bl (t.extract 1 t.size)=(bl t).drop 1:=by rw[eQ,<-u,Xag]
   have e2:(t.extract 1 t.size).size=t.size-1:=by rw[<-cF,Z,Xbd,u]
   refine⟨⟨by omega,by omega⟩,?_⟩;refine⟨⟨t.extract 1 t.size,rfl,?_,?_,?_,by omega⟩,by show(t.extract 1 t.size).size<t.size;omega⟩
   . intro e
     have:=congrArg List.length e;rw[cF,e2]at this;simp at this;omega
   . rw[Z,Xao]
     intro c hc;exact Xao.1 I c (List.mem_of_mem_drop hc)
   . rw[<-J]
     unfold dU;rw[Z];cases M:bl t with
     | nil=>exact absurd M E
     | cons c r=>
       rw[M]at F;have:=sX [c] r;rw[List.drop_one,List.tail_cons,show c::r=[c]++r from rfl,this];have O:c.toNat=48:=by simpa using F.2
       simp[fU,O]
 . simp only[go_sem,T]
   refine cS ?_;have hR:dC t=true:=by
     unfold dC eD;rw[I,Xco];have:(bl t != [])=true:=by simpa using E
     rw[this,Xaz,Xbt,Xaw,bne_iff_ne];by_cases h1:t.size>1
     . refine .inr fun e=>?_
       rw[e]at F;simp[h1]at F;omega
     . have:=Xbv.2 E
       exact .inl (by omega)
   rw[<-J,iB hR]
theorem KW{p q:Nat}(h:p<=q):(dec p).size<=(dec q).size:=by
 rw[iA,iA];rcases Xar (Lib.decDigits q).length (Lib.decDigits p).length with h1|h1
 . exfalso
   have u:=(jE (n:=q) (k:=(Lib.decDigits q).length) (gL q)).1 (Xaf _);have:=(jE (n:=p) (k:=(Lib.decDigits q).length) (gL q)).2 (by omega);omega
 . exact h1
theorem Xt{d:Nat}(u:d<10)(o:List Nat):Lib.decDigits d++txt o=txt (o++[d]):=by
 rw[Lib.decDigits_one u];simp[txt]
theorem zJ(n:Nat):(bl (dec n)).all isD=true:=by rw[gO];exact sG n
theorem We(n:Nat):ofL 10 (dl (bl (dec n)))=n:=by rw[OQ,gO,nE]
theorem Z6(m n:Nat)(h:n<=m)(hm:(dec m).size<=1048576):PC prog 256 [str (dec m),str (dec n)] (str (dec (m-n))):=by
 have ad:=KW h;have dm:=zJ m;have dn:=zJ n;have vm:=We m;have vn:=We n;have lm:=Oh dm;have ln:=Oh dn;have zm:=cF (dec m);have zn:=cF (dec n);have af:0<(dec m).size:=by rw[iA];exact gL m
 have xl:(dl (bl (dec m))).length=(dec m).size:=by rw[Fp];omega
 have yl:(dl (bl (dec n))).length=(dec n).size:=by rw[Fp];omega
 refine pcd Tryz.func256 ?_;unfold Tryz.f256;simp only[gdS];simp only[go_sem];refine⟨fun ρ _=>∃(i c:Nat) (t:ByteArray) (o:List Nat),i<=(dec m).size/\ρ 0=str (dec m)/\ρ 1=str (dec n)/\ρ 5=str t/\ρ 6=int c/\ρ 7=int i/\bl t=txt o/\Lim 10 o/\o.length=i/\c<=1/\ofL 10 o+ofL 10 ((dl (bl (dec n))).take i)=ofL 10 ((dl (bl (dec m))).take i)+10^i*c,fun ρ _=>(dec m).size-aT (ρ 7),
   ⟨0,0,emp,[],Xab _,rfl,rfl,rfl,rfl,rfl,rfl,by simp[Lim],rfl,by omega,by simp[ofL]⟩,?_⟩
 rintro ρ H ⟨i,c,t,o,hi,h0,h1,u,J,F,M,ho,Z,hc,hv⟩;have ht:t.size=i:=by rw[<-cF,M];simp[txt,Z]
 simp only[go_sem,h0,h1,u,J,F];refine aA (fun T=>?_) (fun aa=>?_)
 . have T:=ltB T
   have ac:(dl (bl (dec m))).getD i 0<10:=lm.getD (by omega) i;have ab:(dl (bl (dec n))).getD i 0<10:=ln.getD (by omega) i;have ah:=DF (b:=10) ac ab hc;have I:=uZ (b:=10) ac ab hc;have ae:=AG (b:=10) (x:=dl (bl (dec m))) (y:=dl (bl (dec n))) (c':=if(dl (bl (dec m))).getD i 0<(dl (bl (dec n))).getD i 0+c then 1 else 0) (d:=if(dl (bl (dec m))).getD i 0<(dl (bl (dec n))).getD i 0+c then(dl (bl (dec m))).getD i 0+10-((dl (bl (dec n))).getD i 0+c)else(dl (bl (dec m))).getD i 0-((dl (bl (dec n))).getD i 0+c)) Z hv I.1;simp only[go_sem,h0,h1,u,J,F];refine PC.use (Mu (dec m) dm i (by omega) (by omega)) ?_;simp only[go_sem,h0,h1,u,J,F];refine PC.use (Mu (dec n) dn i (by omega) (by omega)) ?_;generalize (dl (bl (dec m))).getD i 0=a at *;generalize (dl (bl (dec n))).getD i 0=yi at *;have e1:IntKind.i64.wrap (IntKind.i64.wrap ((a:Int)-(yi:Int))-(c:Int))=(a:Int)-yi-c:=by
     rw[show IntKind.i64.wrap ((a:Int)-(yi:Int))=(a:Int)-yi from aR (by omega),aR (by omega)]
   simp only[go_sem,h0,h1,u,J,F,e1];refine bH (fun E H'=>E 0=str (dec m)/\E 1=str (dec n)/\E 5=str t/\E 7=int i/\E 8=int (if a<yi+c then a+10-(yi+c)else a-(yi+c):Nat)/\E 6=int (if a<yi+c then 1 else 0:Nat)) ?_ fun K hK=>aA (fun O=>?_) (fun O=>?_)
   rotate_left
   . have O:a<yi+c:=by simp at O;omega
     have e2:IntKind.i64.wrap ((a:Int)-yi-c+10)=((a+10-(yi+c):Nat):Int):=by rw[aR (by omega)];omega
     simp only[go_sem,h0,h1,u,J,F,e2];exact hK _ _ ⟨by simp only[go_sem,h0],by simp only[go_sem,h1],by simp only[go_sem,u],by simp only[go_sem,F],by simp only[go_sem,if_pos O],by simp only[go_sem,if_pos O];rfl⟩
   . have O:¬a<yi+c:=by simp at O;omega
     simp only[go_sem,h0,h1,u,J,F];refine hK _ _ ⟨by simp only[go_sem,h0],by simp only[go_sem,h1],by simp only[go_sem,u],by simp only[go_sem,F],?_,by simp only[go_sem,if_neg O];rfl⟩;simp only[go_sem,if_neg O]
     congr 2
     omega
   clear h0 h1 u J F;rintro ρ H ⟨h0,h1,u,F,h8,J⟩;simp only[go_sem,h0,h1,u,J,F,h8];generalize (if a<yi+c then a+10-(yi+c)else a-(yi+c))=d at *;refine PC.use (A0 d I.2) ?_;have ag:(dec d).size=1:=by rw[iA,yT];exact I.2
   simp only[go_sem,h0,h1,u,J,F,h8,aP (show i<=4611686018427387904 by omega)];refine⟨by show(((dec d).size+t.size:Nat):Int)<=9223372036854775807;omega,?_⟩;exact⟨⟨i+1,_,_,_,T,rfl,rfl,rfl,by rw[kM,gO,M,Xt I.2],ho.snoc I.2,by simp[Z],by split <;> omega,ae⟩,by simp only[aE];omega⟩
 . have aa:=geB hi aa
   simp only[go_sem,u];obtain⟨_,hV⟩:=Cu (b:=10) (y:=dl (bl (dec n))) (by decide) ho lm (by omega) (by omega) (by omega) hc (by rw[xl,<-aa];exact hv);refine PC.use (JK t (by omega) (fun e=>by rw[<-cF,e]at ht;simp at ht;omega) (by rw[M];exact adZ ho)) ?_;simp only[go_sem];refine cS ?_;unfold dU;rw[M,Yk ho,hV,vm,vn]
theorem adF{s:ByteArray}{k:Nat}{c:UInt8}(h:(bl s)[k]?=some c):bl (s.extract k (k+1))=[c]:=by
 rw[eQ,bP h,List.drop_append_of_le_length (by simp;have:=(List.getElem?_eq_some_iff.1 h).1;omega)];simp
theorem Y5(m n:Nat):VL (dec m) (dec n)=fR m n:=by unfold VL;rw[kB,kB,bU,bU];rfl
theorem Jr{m n:Nat}:decide (fR m n>=0)=decide (n<=m):=by
 unfold fR;rw[decide_eq_decide];split
 . simp;omega
 . split <;> simp <;> omega
theorem XT(r:Nat){c:UInt8}(E:isD c=true)(s:ByteArray)(u:bl s=[c]):(bl (dec r++s)).all isD=true/\bl (dec r++s)≠[]/\dU (dec r++s)=10*r+(c.toNat-48):=by
 refine⟨?_,?_,?_⟩
 . rw[kM,u,List.all_append,zJ]
   simp[E]
 . rw[kM,u];simp
 . unfold dU
   rw[kM,u,lP,gO,nE]
theorem W7{K M R:Nat}(u:M=10^K)(E:R<10*M):(dec R).size<=K+1:=by
 subst u;rw[iA];exact(jE (k:=K+1) (by omega)).2 (by rw[Xbu,Nat.mul_comm];exact E)
theorem agF:∃K,K=4096/\cK=10^K:=⟨Yj,rfl,by unfold cK;rfl⟩
theorem ZN{R:Nat}(u:R<10*cK):(dec R).size<=4097:=by
 obtain⟨K,E,e⟩:=agF;have:=W7 e u;omega
def agX:AV->Nat
 | .v (.string s)=>dU s
 | _=>0
theorem Ce(n:Nat):agX (str (dec n))=n:=by show dU (dec n)=n;exact bU n
theorem agS(a b:ByteArray)(ha:a.size<=1048576)(hb:b.size<=1048576):PC prog 201 [str a,str b] (.tup [str (By a b).1,str (By a b).2.1,int (By a b).2.2]):=by
 refine pcd Tryz.func201 ?_;unfold Tryz.f201;simp only[gdS];simp only[go_sem];refine PC.use (Ls a b ha hb) ?_;simp only[go_sem];refine aA (fun h=>?_) (fun h=>?_)
 . have h:iI a b≠0:=by simpa using h
   simp only[go_sem];rw[show By a b=(emp,emp,iI a b)from if_neg h];exact .refl _
 have h:iI a b=0:=by simpa using h
 obtain⟨m,n,rfl,rfl,hm,hn⟩:=pC h;rw[show By (dec m) (dec n)=if n=0 then(emp,emp,10)else(dec (m/n),dec (m%n),0)by unfold By;rw[if_pos h,bU,bU]];simp only[go_sem,lK];refine aA (fun h0=>?_) (fun h0=>?_)
 . have h0:n=0:=pB.1 (jQ.1 h0)
   simp only[go_sem];rw[if_pos h0];exact .refl _
 have h0:n≠0:=fun e=>kW.1 h0 (by rw[e])
 rw[if_neg h0];have zm:=cF (dec m);have dm:=zJ m;have ah:0<(dec m).size:=by rw[iA];exact gL m
 simp only[go_sem];refine⟨fun ρ _=>∃(k r:Nat) (q:ByteArray),k<=(dec m).size/\ρ 0=str (dec m)/\ρ 1=str (dec n)/\ρ 8=str q/\ρ 9=str (dec r)/\ρ 10=int k/\q.size=k/\(bl q).all isD=true/\r<n/\fU ((bl (dec m)).take k)=fU (bl q)*n+r,fun ρ _=>(dec m).size-aT (ρ 10),
   ⟨0,0,emp,Xab _,by simp only[go_sem],by simp only[go_sem],by simp only[go_sem];rfl,by simp only[go_sem];rw[pI],by simp only[go_sem];rfl,rfl,rfl,by omega,by simp[fU,ajG]⟩,?_⟩
 rintro ρ H ⟨k,r,q,hk,u,h1,J,O,E,hq,aa,hr,hv⟩;simp only[go_sem,u,h1,J,O,E];refine aA (fun Z=>?_) (fun F=>?_)
 . have Z:=ltB Z
   obtain⟨c,hc⟩:=aN (l:=bl (dec m)) (k:=k) (by omega);have ac:=Xao.1 dm c (Xae hc);have ab:=adF hc;obtain⟨d1,d2,d3⟩:=XT r ac _ ab;have aj:=kS.1 ac;have am:=dB (Nat.lt_trans hr hn);have an:((dec m).extract k (k+1)).size=1:=by rw[<-cF,ab];rfl
   simp only[go_sem,u,h1,J,O,E,aP (show k<=4611686018427387904 by omega),Xbc];refine⟨⟨by omega,by omega,by omega⟩,by show(((dec r).size+((dec m).extract k (k+1)).size:Nat):Int)<=9223372036854775807;omega,?_⟩;have af:=(gI r).2 (Nat.lt_trans hr hn);refine PC.use (JK _ (by rw[ByteArray.size_append];omega) d2 d1) ?_;rw[d3];generalize hR:10*r+(c.toNat-48)=R;have ai:R<10*n:=by omega
   have ak:=ZN (show R<10*cK by omega);simp only[go_sem,u,h1,J,E];refine⟨fun ρ _=>∃(d r':Nat),ρ 0=str (dec m)/\ρ 1=str (dec n)/\ρ 8=str q/\ρ 10=int k/\ρ 9=str (dec r')/\ρ 11=int d/\d*n+r'=R,fun ρ _=>agX (ρ 9),
     ⟨0,R,by simp only[go_sem,u],by simp only[go_sem,h1],by simp only[go_sem,J],by simp only[go_sem,E],by simp only[go_sem],by simp only[go_sem];rfl,by omega⟩,?_⟩
   clear u h1 J O E;rintro ρ H ⟨d,r',u,h1,J,E,O,M,hd⟩;have ag:=KW (show r'<=R by omega);simp only[go_sem,u,h1,J,O,E,M];refine PC.use (QO (dec r') (dec n) (by omega) (dB hn)) ?_;rw[Y5];simp only[go_sem,u,h1,J,O,E,M,Jr];have I:d<10:=by
     rcases Xar d 10 with h|h
     . exact h
     . have:=Xcq n h
       omega
   have e0:∀{x y:Nat},decide ((y:Int)<=(x:Int))=decide (y<=x):=fun {x y}=>by rw[decide_eq_decide];omega
   refine aA (fun F=>?_) (fun T=>?_)
   . have F:n<=r':=by have:=of_decide_eq_true F;omega
     simp only[go_sem,u,h1,J,O,E,M];refine PC.use (Z6 r' n F (by omega)) ?_;simp only[go_sem,u,h1,J,O,E,M,aP (show d<=4611686018427387904 by omega)];refine⟨⟨d+1,r'-n,rfl,rfl,by rw[Nat.add_mul];omega⟩,?_⟩;rw[Ce,Ce];omega
   . have T:r'<n:=by have:=of_decide_eq_false T;omega
     simp only[go_sem,u,h1,J,O,E,M];refine PC.use (A0 d I) ?_;have al:(dec d).size=1:=by rw[iA,yT];exact I
     simp only[go_sem,u,h1,J,O,E,M,aP (show k<=4611686018427387904 by omega)];refine⟨by show((q.size+(dec d).size:Nat):Int)<=9223372036854775807;omega,?_⟩;refine⟨⟨k+1,r',_,Z,rfl,rfl,rfl,by rw[ByteArray.size_append];omega,?_,T,?_⟩,by simp only[aE];omega⟩
     . rw[kM,List.all_append,aa,zJ];rfl
     . rw[bP hc,lP,hv,kM,gO,Lib.decDigits_one I,lP,lQ I,show 48+d-48=d by omega,Nat.add_mul,Nat.mul_assoc]
       omega
 . have F:=geB hk F
   simp only[go_sem,J,O];refine PC.use (JK q (by omega) (fun e=>by rw[<-cF,e]at hq;simp at hq;omega) aa) ?_;simp only[go_sem,J,O];rw[F,Xan (by omega),gO,nE]at hv;have hv:m=dU q*n+r:=hv;have ae:m/n=dU q:=by
     rw[hv,Xcc,Nat.add_mul_div_right _ _ (by omega),Nat.div_eq_of_lt hr,Nat.zero_add]
   have ad:m%n=r:=by
     rw[hv,Xcc,Nat.add_mul_mod_self_right,Xba hr]
   rw[ae,ad];exact .refl _
theorem Xi(a b:ByteArray)(Z:a.size<=1048576)(E:b.size<=1048576):PC prog 130 [str a,str b] (.tup [str (xC a b).1,int (xC a b).2]):=by
 refine pcd Tryz.func130 ?_;unfold Tryz.f130;simp only[gdS];simp only[go_sem];refine PC.use (Ls a b Z E) ?_;simp only[go_sem];refine aA (fun h=>?_) (fun h=>?_)
 . have h:iI a b≠0:=by simpa using h
   simp only[go_sem];rw[show xC a b=(emp,iI a b)from if_neg h];exact .refl _
 have h:iI a b=0:=by simpa using h
 obtain⟨m,n,rfl,rfl,O,T⟩:=pC h;rw[show xC (dec m) (dec n)=szN (Nat.gcd m n)by unfold xC;rw[if_pos h,bU,bU]];simp only[go_sem];refine⟨fun ρ _=>∃(x y:Nat),ρ 0=str (dec x)/\ρ 1=str (dec y)/\x<cK/\y<cK/\Nat.gcd m n=Nat.gcd x y,fun ρ _=>agX (ρ 1),⟨m,n,by simp only[go_sem],by simp only[go_sem],O,T,rfl⟩,?_⟩;rintro ρ H ⟨x,y,h0,h1,F,J,M⟩;simp only[go_sem,h0,h1,lK];refine aA (fun E=>?_) (fun E=>?_)
 . have u : y ≠ 0 := fun e => by
     rw[e,show eqB (dec 0) (dec 0)=true from jQ.2 rfl]at E;cases E
   simp only[go_sem,h0,h1];refine PC.use (agS (dec x) (dec y) (dB F) (dB J)) ?_;rw[KP F J u];simp only[go_sem,h0,h1];have I:=Xbm x (show 0<y by omega);refine⟨⟨y,x%y,rfl,rfl,J,by omega,?_⟩,by rw[Ce,Ce];exact I⟩;rw[M,Nat.gcd_comm x y,Nat.gcd_rec y x,Nat.gcd_comm]
 . have u : y = 0 := by
     have:eqB (dec y) (dec 0)=true:=by simpa using E
     exact pB.1 (jQ.1 this)
   simp only[go_sem,h0];rw[M,u,Nat.gcd_zero_right,wK F];exact .refl _
theorem QL(c d:UInt8):(((c.toNat:Nat):Int) == ((d.toNat:Nat):Int))=(c == d):=by
 rw[Xax,Xaw,Xaw,Int.ofNat_inj,UInt8.toNat_inj]
theorem uA(s:ByteArray):(decide ((s.size:Int)>0)&&(((bl s).getD 0 0).toNat:Int) == 45)=eJ s:=by
 rw[<-cF];unfold eJ;cases bl s with
 | nil=>rfl
 | cons c r=>
   rw[show decide ((((c::r).length:Nat):Int)>0)=true by simp];simp only[List.getD_cons_zero,List.head?_cons,Xaz];rw[show(some c == some (45:UInt8))=(c == 45)from rfl];exact QL c 45
def stN(s:ByteArray):Nat:=if eJ s=true then 1 else 0
theorem sR(s:ByteArray):bl (dP s)=(bl s).drop (stN s):=by
 unfold dP stN;split
 . exact iK _
 . rw[Xbj]
theorem Jc(s:ByteArray):stN s<=(bl s).length:=by
 unfold stN;split
 . rename_i h
   unfold eJ at h;cases u:bl s with
   | nil=>rw[u]at h;cases h
   | cons c r=>simp
 . omega
theorem J7{s:ByteArray}{c:UInt8}(h1:(bl s)[stN s]?=some c)(I:((bl s).drop (stN s)).all isD=true):dV s=((c != 48)||bl s == [48]):=by
 obtain⟨hk,T⟩:=List.getElem?_eq_some_iff.1 h1;have F:bl (dP s)=c::(bl s).drop (stN s+1):=by rw[sR,Xbz hk,T]
 have e0:eqB (dP s) (dec 0)=(c::(bl s).drop (stN s+1) == [48]):=by rw[<-lK,F]
 have I:(c::(bl s).drop (stN s+1)).all isD=true:=by rw[<-F,sR];exact I
 unfold dV dC eD;rw[e0,F];rw[I,Xco,show((c::(bl s).drop (stN s+1)) != [])=true from rfl,Xaz,List.getD_cons_zero];by_cases u:eJ s=true
 . have M : (bl s == [48]) = false := by
     unfold eJ at u;cases J:bl s with
     | nil=>rw[J]at u;cases u
     | cons x r=>
       rw[J]at u;have:x=45:=by simpa using u
       subst this;rfl
   rw[u,M];cases O:(bl s).drop (stN s+1)with
   | nil=>cases E:(c == 48) <;> simp[bne,E] <;> simpa using E
   | cons y r=>cases E:(c == 48) <;> simp[bne,E]
 . have Z:dP s=s:=if_neg u
   have u:eJ s=false:=by simpa using u
   rw[Z]at F;rw[u,Bool.false_and,Bool.not_false,Xco,show(bl s == [48])=(c::(bl s).drop (stN s+1) == [48])by rw[<-F]];cases O:(bl s).drop (stN s+1)with
   | nil=>cases E:(c == 48) <;> simp[bne,E]
   | cons y r=>cases E:(c == 48) <;> simp[bne,E]
theorem tU(s:ByteArray)(h:s.size<=1048576):PC prog 126 [str s] (boo (dV s)):=by
 have hs:=cF s;have ac:=Jc s;refine pcd Tryz.func126 ?_;unfold Tryz.f126;simp only[gdS];simp only[go_sem];refine⟨fun h=>⟨by omega,by have:=of_decide_eq_true h;omega⟩,?_⟩;rw[uA];refine bH (fun Z H'=>Z 0=str s/\Z 3=int (stN s:Nat)) ?_ fun K hK=>aA (fun J=>?_) (fun J=>?_)
 rotate_left
 . simp only[go_sem]
   exact hK _ _ ⟨by simp only[go_sem],by simp only[go_sem];rw[show stN s=1 from if_pos J];rfl⟩
 . simp only[go_sem]
   exact hK _ _ ⟨by simp only[go_sem],by simp only[go_sem];rw[show stN s=0 from if_neg (by rw[J];simp)];rfl⟩
 rintro ρ H ⟨h0,u⟩;simp only[go_sem,h0,u];refine aA (fun J=>?_) (fun J=>?_)
 . simp only[go_sem]
   refine cB ?_;have he:s.size=stN s:=by rw[Xaw]at J;omega
   unfold dV dC eD;rw[sR,Xby (by omega)];rfl
 have aa:stN s<(bl s).length:=by rw[beq_eq_false_iff_ne]at J;omega
 simp only[go_sem,h0,u];refine⟨fun ρ _=>∃k:Nat,stN s<=k/\k<=(bl s).length/\ρ 0=str s/\ρ 3=int (stN s:Nat)/\ρ 4=int k/\∀c∈((bl s).take k).drop (stN s),isD c=true,fun ρ _=>(bl s).length-aT (ρ 4),⟨stN s,Xaf _,by omega,by simp only[go_sem,h0],by simp only[go_sem,u],by simp only[go_sem,u],by rw[Xby (by simp;omega)];simp⟩,?_⟩;clear h0 u;rintro ρ H ⟨k,ab,hk,h0,u,h4,hz⟩;simp only[go_sem,h0,u,h4];refine aA (fun E=>?_) (fun F=>?_)
 . have E:k<(bl s).length:=by have:=ltB E;omega
   obtain⟨c,M⟩:=aN E;have hi:=pD M;simp only[go_sem,h0,u,h4,hi,JO];have T:((bl s).take (k+1)).drop (stN s)=((bl s).take k).drop (stN s)++[c]:=by
     rw[bP M,List.drop_append_of_le_length (by rw[Xal];omega)]
   refine⟨⟨by omega,by omega⟩,fun _=>⟨by omega,by omega⟩,aA (fun I=>?_) (fun I=>?_)⟩
   . simp only[go_sem]
     refine cB ?_;unfold dV dC eD;rw[sR];rw[QS (k:=k-stN s) (c:=c) (by rw[List.getElem?_drop,show stN s+(k-stN s)=k by omega];exact M) (by simpa using I)];simp
   . simp only[go_sem,h0,u,h4,aP (show k<=4611686018427387904 by omega)]
     refine⟨⟨k+1,by omega,E,rfl,?_⟩,by simp only[aE];omega⟩;rw[T];intro x O;rcases Xbe.1 O with O|O
     . exact hz x O
     . rw[Xaq.1 O];simpa using I
 . have F:k=(bl s).length:=by rw[<-hs]at F;exact geB hk F
   subst F;rw[Xag]at hz;obtain⟨c,M⟩:=aN aa;simp only[go_sem,h0,u,h4,pD M];refine⟨⟨by omega,by omega⟩,?_⟩;refine cB ?_;rw[J7 M (JG hz)]
   congr 1
   rw[bne,bne,<-QL c 48];rfl
theorem Cw(s:ByteArray)(h:s.size<=1048576):PC prog 207 [str s] (int (dP s).size):=by
 have F:=cF s;refine pcd Tryz.func207 ?_;unfold Tryz.f207;simp only[gdS];simp only[go_sem];refine⟨fun h=>⟨by omega,by have:=of_decide_eq_true h;omega⟩,?_⟩;rw[uA];have I:(dP s).size=s.size-stN s:=by rw[<-cF,sR,Xbd,F]
 have E:=Jc s;refine aA (fun u=>?_) (fun u=>?_)
 . have:stN s=1:=if_pos u
   simp only[go_sem];refine cI ?_;rw[aR (by omega)];omega
 . have:stN s=0:=if_neg (by rw[u];simp)
   simp only[go_sem];exact cI (by omega)
theorem Bs(a b:ByteArray)(J:a.size<=1048576)(I:b.size<=1048576):PC prog 136 [str a,str b] (int (iO a b)):=by
 refine pcd Tryz.func136 ?_;unfold Tryz.f136;simp only[gdS];simp only[go_sem];refine PC.use (tU a (by omega)) ?_;simp only[go_sem];refine⟨_,fun _=>(tU b (by omega)).q rfl,?_⟩;simp only[go_sem];unfold iO;refine aA (fun u=>?_) (fun u=>?_)
 . simp only[go_sem]
   exact cI (by rw[if_pos u])
 . simp only[go_sem]
   refine PC.use (Cw a J) ?_;simp only[go_sem];refine⟨_,fun _=>(Cw b I).q rfl,?_⟩;simp only[go_sem];have M:decide (((dP a).size:Int)>4096)=decide ((dP a).size>4096):=by rw[decide_eq_decide];omega
   have F:decide (((dP b).size:Int)>4096)=decide ((dP b).size>4096):=by rw[decide_eq_decide];omega
   rw[if_neg (by rw[u];simp),M,F];refine aA (fun E=>?_) (fun E=>?_)
   . simp only[go_sem]
     exact cI (by rw[if_pos E])
   . simp only[go_sem]
     exact cI (by rw[if_neg (by rw[E];simp)])
theorem Vp{n:Int}(h:(!decide (n.natAbs<cK))=true):szZ n=(emp,4):=if_neg (fun u=>by rw[decide_eq_true u]at h;cases h)
theorem H5(n:Int)(h:(zed n).size<=1048576):PC prog 202 [str (zed n)] (.tup [str (szZ n).1,int (szZ n).2]):=by
 refine pcd Tryz.func202 ?_;unfold Tryz.f202;simp only[gdS];simp only[go_sem];refine PC.use (Cw (zed n) h) ?_;simp only[go_sem];have E:decide (((dP (zed n)).size:Int)>4096)= !decide (n.natAbs<cK):=by
   rw[<-decide_not,decide_eq_decide];have:=oK n;omega
 rw[E];refine aA (fun u=>?_) (fun u=>?_)
 . simp only[go_sem]
   rw[Vp u];exact .refl _
 . simp only[go_sem]
   rw[show szZ n=(zed n,0)from if_pos (by simpa using u)];exact .refl _
theorem aeE(l:List Nat)(h:l.length<=4611686018427387904):PC prog 151 [.sl (l.map eO)] (.sl ((lW l).map eO)):=by
 refine pcd Tryz.func151 ?_;unfold Tryz.f151;simp only[gdS];simp only[go_sem];refine⟨fun ρ _=>∃k:Nat,k<=l.length/\ρ 0=.sl (l.map eO)/\ρ 3=int k/\lW (l.take k)=lW l,fun ρ _=>aT (ρ 3),⟨l.length,Xaf _,by simp only[go_sem],by simp only[go_sem,Xaa],by rw[Xag]⟩,?_⟩;rintro ρ H ⟨k,hk,h0,E,I⟩;cases k with
 | zero=>
   have J:lW l=[]:=by rw[<-I];rfl
   have O:(IntKind.i64.wrap (((0:Nat):Int)-1)).toNat=0:=rfl;rw[J];cases l with
   | nil=>
     simp only[go_sem,h0,E,O,Xbg,List.getD_nil,show decide (((0:Nat):Int)>0)=false from rfl];refine aA (fun F=>by cases F) (fun _=>?_);simp only[go_sem,h0,E];exact⟨⟨by omega,by omega⟩,.refl _⟩
   | cons x l=>
     simp only[go_sem,h0,E,O,Xav,List.getD_cons_zero,show decide (((0:Nat):Int)>0)=false from rfl];refine aA (fun F=>by cases F) (fun _=>?_);simp only[go_sem,h0,E];exact⟨⟨by omega,by omega⟩,.refl _⟩
 | succ k=>
 have Z:IntKind.i64.wrap (((k+1:Nat):Int)-1)=(k:Int):=by rw[aR (by omega)];omega
 obtain⟨x,T⟩:=aN (show k<l.length by omega);have M:l.take (k+1)=l.take k++[x]:=bP T;have b2:=inB (show k<l.length by omega);simp only[go_sem,h0,E,Z,aF T,b2,show decide (((k+1:Nat):Int)>0)=true from decide_eq_true (by omega)];refine aA (fun F=>?_) (fun F=>?_)
 . have u:x=0:=by simpa using F
   simp only[go_sem,h0,E,Z];refine⟨⟨k,by omega,rfl,?_⟩,?_⟩
   . rw[M,uU,if_pos u]at I;exact I
   . simp only[aE];omega
 . have u:x≠0:=by simpa using F
   simp only[go_sem,h0,E];rw[M,uU,if_neg u]at I;rw[<-List.map_take,M,I];exact⟨⟨by omega,by omega⟩,.refl _⟩
theorem pL(l:List Nat)(i:Nat)(I:i<=4611686018427387904)(h:l.length<=4611686018427387904):PC prog 208 [.sl (l.map eO),int i] (int (l.getD i 0:Nat)):=by
 refine pcd Tryz.func208 ?_;unfold Tryz.f208;simp only[gdS];simp only[go_sem];refine aA (fun u=>?_) (fun u=>?_)
 . have u:i<l.length:=by simpa using u
   obtain⟨x,E⟩:=aN u;have F:=inB u;simp only[go_sem,aF E,F];exact cI (by simp[List.getD,E])
 . have u:l.length<=i:=by simpa using u
   simp only[go_sem];exact cI (by simp[List.getD,List.getElem?_eq_none u])
abbrev dg(n:Nat):AV:=.sl ((aO 10 n).map eO)
theorem FO{l:List Nat}(E:Lim 10 l)(h:l.length<=4611686018427387904){n:Nat}(u:ofL 10 l=n):PC prog 151 [.sl (l.map eO)] (dg n):=by
 have:=aeE l h
 rwa [J2 (by decide) E u]at this
def upN:AV->Nat
 | .v (.int _ n)=>(n+1).toNat
 | _=>0
theorem Bb(k:IntKind)(n:Int):upN (.v (.int k n))=(n+1).toNat:=(rfl)
theorem adQ(c:UInt8)(l:List UInt8):dl (c::l)=dl l++[c.toNat-48]:=by simp[dl]
theorem afA{k:Nat}(h:k<=4611686018427387904):IntKind.i64.wrap ((k:Int)-1-1)=(k:Int)-1-1:=aR (by omega)
theorem nK(n:Int)(h:(zed n).size<=1048576):PC prog 137 [str (zed n)] (.tup [boo (decide (n<0)),dg n.natAbs]):=by
 have hs:=cF (zed n);have hr:dC (dP (zed n))=true:=by rw[iD];exact kB _
 have I:=sR (zed n);have an:=Jc (zed n);have F:((bl (zed n)).drop (stN (zed n))).all isD=true:=by rw[<-I,iD];exact zJ _
 have al:stN (zed n)<(bl (zed n)).length:=by
   have h1:0<(bl (dP (zed n))).length:=by rw[iD,gO];exact gL _
   rw[I,Xbd]at h1;omega
 have hm:(((((bl (zed n)).getD 0 0).toNat:Nat):Int) == 45)=eJ (zed n):=by
   rw[<-uA,show decide (((zed n).size:Int)>0)=true by simp;omega,Xaz]
 refine pcb (fun t=>t == 4) Tryz.func137 ?_;unfold Tryz.f137;simp only[gdS];simp only[go_sem];refine aK fun j hj=>?_
 simp only[go_sem,hm];refine⟨⟨by omega,by omega⟩,?_⟩;refine⟨fun ρ H=>∃(k j:Nat),k<=(bl (zed n)).length/\ρ 0=str (zed n)/\ρ 5=boo (eJ (zed n))/\ρ 4=.os j/\ρ 6=int ((k:Int)-1)/\H j=some (bR (dl ((bl (zed n)).drop (max k (stN (zed n)))))),fun ρ _=>upN (ρ 6),
   ⟨(bl (zed n)).length,j,Xaf _,by simp only[go_sem],by simp only[go_sem],by simp only[go_sem],by simp only[go_sem];rw[hs,aR (by omega)],?_⟩,?_⟩
 . rw[aB,Xby (by omega)];rfl
 clear hj j;rintro ρ H ⟨k,j,hk,h0,J,O,Z,Rj⟩;simp only[go_sem,h0,J,O,Z];refine aA (fun E=>?_) (fun aj=>?_)
 . have E:0<k:=by have:=of_decide_eq_true E;omega
   obtain⟨c,M⟩:=aN (l:=bl (zed n)) (k:=k-1) (by omega);have ei:((k:Int)-1).toNat=k-1:=by omega
   have ak:(bl (zed n)).drop (k-1)=c::(bl (zed n)).drop k:=by
     obtain⟨af,e⟩:=List.getElem?_eq_some_iff.1 M;rw[Xbz af,e,show k-1+1=k by omega]
   simp only[go_sem,h0,J,O,Z,ei,pD M];refine⟨⟨by omega,by omega⟩,?_⟩;by_cases ad:k-1<stN (zed n)
   . have u : eJ (zed n) = true := by
       unfold stN at ad;split at ad
       . assumption
       . omega
     have ac:stN (zed n)=1:=if_pos u;have ah:k=1:=by omega
     subst ah;have aa:c=45:=by
       unfold eJ at u;cases T:bl (zed n)with
       | nil=>rw[T]at u;cases u
       | cons x r=>
         rw[T]at u M;have h1:x=45:=by simpa using u
         have h2:x=c:=by simpa using M
         rw[<-h2,h1]
     subst aa;refine aA (fun T=>by cases T) (fun _=>?_);simp only[go_sem,h0,J,O,Z];refine⟨⟨0,j,by omega,rfl,rfl,?_⟩,?_⟩
     . rw[Rj,ac];rfl
     . simp only[Bb];decide
   . have ag : isD c = true := Xao.1 F c (by
       refine Xae (i:=k-1-stN (zed n)) ?_;rw[List.getElem?_drop,show stN (zed n)+(k-1-stN (zed n))=k-1 by omega];exact M)
     have ae:=kS.1 ag;refine aA (fun _=>?_) (fun T=>?_)
     rotate_left
     . exfalso
       have:c.toNat=45:=by
         have:((c.toNat:Int) != 45)=false:=T;rw[bne_eq_false_iff_eq]at this;omega
       omega
     simp only[go_sem,h0,J,O,Z,ei,pD M];refine⟨⟨by omega,by omega⟩,?_⟩;have ai:IntKind.i64.wrap (IntKind.u8.wrap ((c.toNat:Int)-48))=((c.toNat-48:Nat):Int):=by rw[u8w ae.1 (by omega),aR (by omega)]
     rw[ai];refine aX Rj ⟨rfl,rfl⟩ ⟨rfl,trivial⟩ (by simp only[bR,Xaa,Fp,Xbd,Xad,List.length_nil];omega) (fun j' am=>?_);simp only[go_sem,h0,J,O,Z,afA (show k<=4611686018427387904 by omega)];refine⟨⟨k-1,j',by omega,rfl,?_,?_⟩,?_⟩
     . rw[show(k:Int)-1-1=((k-1:Nat):Int)-1 by omega]
     . rw[show max k (stN (zed n))=k by omega,show max (k-1) (stN (zed n))=k-1 by omega,ak,adQ]
       exact nV
     . simp only[Bb];omega
 . have E:k=0:=by have:=of_decide_eq_false aj;omega
   subst E;simp only[go_sem,J,O];rw[Nat.max_eq_right (by omega)]at Rj;have ab:=Oh F;refine PC.useF [j] (.cons _ _ _ _ (.row _ _ _ (by simp only[Xaq,if_true];exact Rj) (ConvE.refl _)) .nil) (FO (n:=n.natAbs) ab (by rw[Fp,Xbd];omega) (by rw[OQ,<-I,iD,gO,nE])) ?_;simp only[go_sem,oO];exact .refl _
def G7(l:List UInt8):Row:=⟨5,1,l.map fun c=>[.v (.int .u8 (c.toNat:Nat))]⟩
theorem XZ(l:List UInt8):pV (l.map fun c=>[.v (.int .u8 (c.toNat:Nat))])=some (l.map fun c=>((c.toNat:Nat):Int)):=by
 induction l with
 | nil=>rfl
 | cons c l ih=>simp only[Xav,pV,ih,Option.map_some]
theorem TY(l:List UInt8):bl (strOfNums (l.map fun c=>((c.toNat:Nat):Int)))=l:=by
 rw[strOfNums,iK,List.map_map]
 conv=>rhs;rw[<-List.map_id l]
 refine List.map_congr_left fun c _=>?_
 simp
theorem SC(m:Bool)(l:List Nat)(hl:Lim 10 l)(h:l.length<=1048576):PC prog 91 [boo m,.sl (l.map eO)] (str (zed (sg m (ofL 10 l)))):=by
 have Z:=FO hl (by omega) rfl;have J:=bZ (b:=10) (by decide) (ofL 10 l);have ah:(aO 10 (ofL 10 l)).length<=l.length:=gF (by decide) (iR (by decide) hl);have ag:=cD (b:=10) (by decide) (ofL 10 l);refine pcb (fun t=>t == 5||t == 32) Tryz.func91 ?_;unfold Tryz.f91;simp only[gdS];simp only[go_sem];refine PC.use Z ?_;generalize ofL 10 l=n at *;simp only[go_sem,Xaa];refine aA (fun F=>?_) (fun F=>?_)
 . have h0 : n = 0 := by
     have:(aO 10 n).length=0:=by rw[Xaw]at F;omega
     exact(mU (by decide)).1 (Xas.1 this)
   simp only[go_sem];refine cS ?_;rw[h0,pI];unfold sg;split <;> exact(cN 0).symm
 have h0:n≠0:=fun e=>by rw[e,dD]at F;cases F
 simp only[go_sem];refine aK fun j hj=>?_
 simp only[go_sem];refine bH (fun M H'=>∃j,M 1=dg n/\M 5=.os j/\H' j=some (G7 (if m=true then[45]else[]))) ?_ fun K hK=>aA (fun F=>?_) (fun F=>?_)
 rotate_left
 . simp only[go_sem]
   refine aX (aB _ _ _) ⟨rfl,rfl⟩ ⟨rfl,trivial⟩ (by simp) (fun T ad=>?_);simp only[go_sem];exact hK _ _ ⟨T,by simp only[go_sem],by simp only[go_sem],by rw[aB,if_pos F];rfl⟩
 . simp only[go_sem]
   exact hK _ _ ⟨j,by simp only[go_sem],by simp only[go_sem],by rw[aB,if_neg (by rw[F];simp)];rfl⟩
 clear hj j;rintro ρ H ⟨j,h1,u,I⟩;simp only[go_sem,h1,u,Xaa];refine⟨fun ρ H=>∃(k j:Nat),k<=(aO 10 n).length/\ρ 1=dg n/\ρ 5=.os j/\ρ 6=int ((k:Int)-1)/\H j=some (G7 ((if m=true then[45]else[])++txt ((aO 10 n).drop k))),fun ρ _=>upN (ρ 6),
   ⟨(aO 10 n).length,j,Xaf _,by simp only[go_sem,h1],by simp only[go_sem,u],by simp only[go_sem,h1,Xaa];rw[aR (by omega)],by rw[Xca];simpa[txt]using I⟩,?_⟩
 clear h1 u I j;rintro ρ H ⟨k,j,hk,h1,u,O,I⟩;simp only[go_sem,h1,u,O];refine aA (fun E=>?_) (fun ae=>?_)
 . have E:0<k:=by have:=of_decide_eq_true E;omega
   obtain⟨x,hx⟩:=aN (l:=aO 10 n) (k:=k-1) (by omega);have ei:((k:Int)-1).toNat=k-1:=by omega
   have ab:x<10:=J x (Xae hx);have af:(aO 10 n).drop (k-1)=x::(aO 10 n).drop k:=by
     obtain⟨aa,e⟩:=List.getElem?_eq_some_iff.1 hx;rw[Xbz aa,e,show k-1+1=k by omega]
   have b1:0<=(k:Int)-1/\(k:Int)-1<((aO 10 n).length:Nat):=by omega
   simp only[go_sem,h1,u,O,ei,aF hx,b1,Xaa];have ew:IntKind.u8.wrap (IntKind.i64.wrap (48+(x:Int)))=(((UInt8.ofNat (48+x)).toNat:Nat):Int):=by
     rw[lQ ab,show IntKind.i64.wrap (48+(x:Int))=48+(x:Int)from aR (by omega),show IntKind.u8.wrap (48+(x:Int))=(48+(x:Int))%256 from rfl];omega
   rw[ew];have ac:∀(p q:List UInt8),(G7 (p++q)).es.length=p.length+q.length:=fun p q=>by simp[G7]
   refine aX I ⟨rfl,rfl⟩ ⟨rfl,trivial⟩ ?_ (fun T ad=>?_)
   . rw[ac]
     have h2:(if m=true then[45]else[]:List UInt8).length<=1:=by split <;> simp
     simp only[txt,List.length_reverse,Xaa,Xbd,Xad,List.length_nil];omega
   simp only[go_sem,h1,u,O,afA (show k<=4611686018427387904 by omega)];refine⟨⟨k-1,T,by omega,rfl,?_,?_⟩,?_⟩
   . rw[show(k:Int)-1-1=((k-1:Nat):Int)-1 by omega]
   . rw[aB,af]
     simp only[G7,txt,Xav,List.reverse_cons,Xam,Xbg,Xai]
   . simp only[Bb];omega
 . have E:k=0:=by have:=of_decide_eq_false ae;omega
   subst E;simp only[go_sem,u];refine C2 (by simp only[go_sem,u]) I fun Hr _ _=>?_
   simp only[go_sem,G7,XZ];refine cS (jC ?_);rw[TY,CM h0];unfold sg;cases m with
   | true=>rw[if_pos rfl,if_pos rfl,Bu (by omega),iK];rfl
   | false=>rw[if_neg (by simp),if_neg (by simp),cN,gO];rfl
theorem Q2{l:List Nat}(h:Lim 10 l)(k:Nat):ofL 10 (l.take k)<10^k:=by
 have h1:=iR (b:=10) (by decide) (h.take k);have u:10^(l.take k).length<=10^k:=Xat (by decide) (by rw[Xal];omega);omega
theorem XE{x y:List Nat}(I:Lim 10 x)(u:Lim 10 y)(k:Nat):fR (ofL 10 (x.take (k+1))) (ofL 10 (y.take (k+1)))=if x.getD k 0<y.getD k 0 then -1 else if y.getD k 0<x.getD k 0 then 1 else fR (ofL 10 (x.take k)) (ofL 10 (y.take k)):=by
 have h1:=Q2 I k;have J:=Q2 u k;rw[qS,qS];generalize ofL 10 (x.take k)=p at *;generalize ofL 10 (y.take k)=q at *;generalize x.getD k 0=a at *;generalize y.getD k 0=b at *;generalize 10^k=T at *;split
 . rename_i h
   have:T*(a+1)<=T*b:=Nat.mul_le_mul_left _ h;rw[Nat.mul_add]at this;rw[gV (by omega)]
 . split
   . rename_i h
     have:T*(b+1)<=T*a:=Nat.mul_le_mul_left _ h;rw[Nat.mul_add]at this;rw[gT (by omega)]
   . have:a=b:=by omega
     subst this;unfold fR;have E:(((p+T*a:Nat):Int)<((q+T*a:Nat):Int))↔((p:Int)<(q:Int)):=by omega
     have F:(((q+T*a:Nat):Int)<((p+T*a:Nat):Int))↔((q:Int)<(p:Int)):=by omega
     simp only[E,F]
theorem wF(m n:Nat)(hm:(aO 10 m).length<=1048576)(hn:(aO 10 n).length<=1048576):PC prog 141 [dg m,dg n] (int (fR m n)):=by
 have om:=cD (b:=10) (by decide) m;have on:=cD (b:=10) (by decide) n;have lm:=bZ (b:=10) (by decide) m;have Z:=bZ (b:=10) (by decide) n;simp only[dg];generalize aO 10 m=x at *;generalize aO 10 n=y at *;have J:kF (x.length:Int) (y.length:Int)=((max x.length y.length:Nat):Int):=by unfold kF;split <;> omega
 refine pcd Tryz.func141 ?_;unfold Tryz.f141;simp only[gdS];simp only[go_sem];simp only[J];refine⟨fun ρ _=>∃k:Nat,k<=max x.length y.length/\ρ 0=.sl (x.map eO)/\ρ 1=.sl (y.map eO)/\ρ 5=int ((k:Int)-1)/\fR m n=fR (ofL 10 (x.take k)) (ofL 10 (y.take k)),fun ρ _=>upN (ρ 5),
   ⟨max x.length y.length,Xaf _,by simp only[go_sem],by simp only[go_sem],by simp only[go_sem];rw[aR (by omega)],by rw[Xan (by omega),Xan (by omega),om,on]⟩,?_⟩
 rintro ρ H ⟨k,hk,h0,h1,E,M⟩;simp only[go_sem,h0,h1,E];refine aA (fun I=>?_) (fun O=>?_)
 . obtain⟨i,rfl⟩:∃i,k=i+1:=⟨k-1,by have:=of_decide_eq_true I;omega⟩
   have T:((i+1:Nat):Int)-1=(i:Int):=by omega
   rw[T]at E;rw[XE lm Z i]at M;simp only[go_sem,h0,h1,E,T];refine PC.use (pL x i (by omega) (by omega)) ?_;simp only[go_sem,h0,h1,E];refine PC.use (pL y i (by omega) (by omega)) ?_;simp only[go_sem,h0,h1,E];refine aA (fun F=>?_) (fun F=>?_)
   . have F:=ltB F
     simp only[go_sem];exact cI (by rw[M,if_pos F])
   have F:¬x.getD i 0<y.getD i 0:=by simpa using F
   simp only[go_sem,h0,h1,E];refine PC.use (pL x i (by omega) (by omega)) ?_;simp only[go_sem,h0,h1,E];refine PC.use (pL y i (by omega) (by omega)) ?_;simp only[go_sem,h0,h1,E];refine aA (fun u=>?_) (fun u=>?_)
   . have u:y.getD i 0<x.getD i 0:=by simpa using u
     simp only[go_sem];exact cI (by rw[M,if_neg F,if_pos u])
   have u:¬y.getD i 0<x.getD i 0:=by simpa using u
   simp only[go_sem,h0,h1,E,show IntKind.i64.wrap ((i:Int)-1)=(i:Int)-1 from aR (by omega)];exact⟨⟨i,by omega,rfl,by rw[M,if_neg F,if_neg u]⟩,by simp only[Bb];omega⟩
 . have I:k=0:=by have:=of_decide_eq_false O;omega
   subst I;simp only[go_sem];exact cI (by rw[M];rfl)
theorem RJ(m n:Nat)(hm:(aO 10 m).length<=1048576)(hn:(aO 10 n).length<=1048576):PC prog 139 [dg m,dg n] (dg (m+n)):=by
 have om:=cD (b:=10) (by decide) m;have on:=cD (b:=10) (by decide) n;have lm:=bZ (b:=10) (by decide) m;have ln:=bZ (b:=10) (by decide) n;have J:∀l:List Nat,Lim 10 l->l.length<=4611686018427387904->ofL 10 l=m+n->PC prog 151 [.sl (l.map eO)] (dg (m+n)):=fun l h1 h2 h3=>FO h1 h2 h3
 simp only[dg]at J |-;generalize aO 10 m=x at *;generalize aO 10 n=y at *;generalize aO 10 (m+n)=z at *;refine pcb (fun t=>t == 5) Tryz.func139 ?_;unfold Tryz.f139;simp only[gdS];simp only[go_sem];refine aK fun j hj=>?_
 simp only[go_sem];refine⟨fun ρ H=>∃(i c j:Nat) (o:List Nat),i<=max x.length y.length+1/\ρ 0=.sl (x.map eO)/\ρ 1=.sl (y.map eO)/\ρ 5=.os j/\ρ 6=int c/\ρ 7=int i/\H j=some (bR o)/\Lim 10 o/\o.length=i/\c<=1/\(i=max x.length y.length+1->c=0)/\ofL 10 o+10^i*c=ofL 10 (x.take i)+ofL 10 (y.take i),fun ρ _=>max x.length y.length+1-aT (ρ 7),
   ⟨0,0,j,[],by omega,by simp only[go_sem],by simp only[go_sem],by simp only[go_sem],by simp only[go_sem];rfl,by simp only[go_sem];rfl,zE,by simp[Lim],rfl,by omega,by omega,by simp[ofL]⟩,?_⟩
 clear hj j;rintro ρ H ⟨i,c,j,o,hi,h0,h1,E,F,M,Rj,ho,O,hc,ac,hv⟩;simp only[go_sem,h0,h1,E,F,M];refine aA (fun u=>?_) (fun u=>?_)
 . have u:i<x.length\/i<y.length\/0<c:=by simpa[or_assoc]using u
   have aa:i<max x.length y.length+1:=by
     rcases Xar i (max x.length y.length+1)with h|h
     . exact h
     . have:=ac (by omega)
       omega
   have ab:=K8 (b:=10) (by decide) (x:=x) (y:=y) O hv;have ae:x.getD i 0<10:=lm.getD (by decide) i;have ad:y.getD i 0<10:=ln.getD (by decide) i;have I:i+1=max x.length y.length+1->(x.getD i 0+y.getD i 0+c)/10=0:=fun e=>by
     have Z:x.getD i 0=0:=by simp only[List.getD,List.getElem?_eq_none (show x.length<=i by omega),Option.getD_none]
     have T:y.getD i 0=0:=by simp only[List.getD,List.getElem?_eq_none (show y.length<=i by omega),Option.getD_none]
     rw[Z,T];omega
   simp only[go_sem,h0,h1,E,F,M];refine PC.use (pL x i (by omega) (by omega)) ?_;simp only[go_sem,h0,h1,E,F,M];refine PC.use (pL y i (by omega) (by omega)) ?_;generalize x.getD i 0=a at *;generalize y.getD i 0=b at *;have Z:IntKind.i64.wrap (IntKind.i64.wrap ((a:Int)+(b:Int))+(c:Int))=((a+b+c:Nat):Int):=by
     rw[show IntKind.i64.wrap ((a:Int)+(b:Int))=(a:Int)+b from aR (by omega),aR (by omega)];omega
   simp only[go_sem,h0,h1,E,F,M,Z];have T:(((a+b+c:Nat):Int)).tmod 10=(((a+b+c)%10:Nat):Int):=rfl;have e3:(((a+b+c:Nat):Int)).tdiv 10=(((a+b+c)/10:Nat):Int):=rfl;rw[T];refine⟨by decide,aX Rj ⟨rfl,rfl⟩ ⟨rfl,trivial⟩ (by simp only[bR,Xaa,Xad,List.length_nil];omega) (fun j' af=>?_)⟩;simp only[go_sem,h0,h1,E,F,M,e3,aP (show i<=4611686018427387904 by omega)];rw[show IntKind.i64.wrap (((a+b+c)/10:Nat):Int)=(((a+b+c)/10:Nat):Int)from aR (by omega)];exact⟨by decide,⟨i+1,_,j',_,aa,rfl,rfl,rfl,nV,ho.snoc (Xbm _ (by decide)),by simp[O],by omega,I,ab⟩,by simp only[aE];omega⟩
 . have u : x.length <= i /\ y.length <= i /\ c = 0 := by
     simp at u;omega
   simp only[go_sem,E];rw[u.2.2,Nat.mul_zero,Nat.add_zero,Xan u.1,Xan u.2.1,om,on]at hv;refine PC.useF [j] (.cons _ _ _ _ (.row _ _ _ (by simp only[Xaq,if_true];exact Rj) (ConvE.refl _)) .nil) (J o ho (by omega) hv) ?_;simp only[go_sem];exact .refl _
theorem B8(m n:Nat)(hm:(aO 10 m).length<=1048576)(ag:n<=m):PC prog 140 [dg m,dg n] (dg (m-n)):=by
 have om:=cD (b:=10) (by decide) m;have on:=cD (b:=10) (by decide) n;have lm:=bZ (b:=10) (by decide) m;have ln:=bZ (b:=10) (by decide) n;have ac:=cC (b:=10) (by decide) ag;have aa:∀l:List Nat,Lim 10 l->l.length<=4611686018427387904->ofL 10 l=m-n->PC prog 151 [.sl (l.map eO)] (dg (m-n)):=fun l h1 h2 h3=>FO h1 h2 h3
 simp only[dg]at aa |-;generalize aO 10 m=x at *;generalize aO 10 n=y at *;generalize aO 10 (m-n)=z at *;refine pcb (fun t=>t == 5) Tryz.func140 ?_;unfold Tryz.f140;simp only[gdS];simp only[go_sem];refine aK fun j hj=>?_
 simp only[go_sem];refine⟨fun ρ H=>∃(i j c:Nat) (o:List Nat),i<=x.length/\ρ 0=.sl (x.map eO)/\ρ 1=.sl (y.map eO)/\ρ 5=.os j/\ρ 6=int c/\ρ 7=int i/\H j=some (bR o)/\Lim 10 o/\o.length=i/\c<=1/\ofL 10 o+ofL 10 (y.take i)=ofL 10 (x.take i)+10^i*c,fun ρ _=>x.length-aT (ρ 7),
   ⟨0,j,0,[],Xab _,by simp only[go_sem],by simp only[go_sem],by simp only[go_sem],by simp only[go_sem];rfl,by simp only[go_sem];rfl,zE,by simp[Lim],rfl,by omega,by simp[ofL]⟩,?_⟩
 clear hj j;rintro ρ H ⟨i,j,c,o,hi,h0,h1,u,J,F,Z,ho,O,hc,hv⟩;simp only[go_sem,h0,h1,u,J,F,Xaa];refine aA (fun I=>?_) (fun T=>?_)
 . have I:=ltB I
   obtain⟨a,ha⟩:=aN I;have af:x.getD i 0=a:=by simp[List.getD,ha]
   have b1:=inB I;have ae:a<10:=lm a (Xae ha);have ad:y.getD i 0<10:=ln.getD (by decide) i;simp only[go_sem,h0,h1,u,J,F];refine dJ (by rfl) (by kernel_rfl) ?_;simp only[go_sem,h0,h1,u,J,F,aF ha,b1,Xaa];refine⟨_,(pL y i (by omega) (by omega)).q rfl,?_⟩;have ab:=uZ (b:=10) ae ad hc;have ah:=AG (b:=10) (x:=x) (y:=y) (c':=if a<y.getD i 0+c then 1 else 0) (d:=if a<y.getD i 0+c then a+10-(y.getD i 0+c)else a-(y.getD i 0+c)) O hv (by rw[af];exact ab.1);generalize y.getD i 0=yi at *;have e1:IntKind.i64.wrap (IntKind.i64.wrap ((a:Int)-(yi:Int))-(c:Int))=(a:Int)-yi-c:=by
     rw[show IntKind.i64.wrap ((a:Int)-(yi:Int))=(a:Int)-yi from aR (by omega),aR (by omega)]
   simp only[go_sem,h0,h1,u,J,F,e1];refine bH (fun E H'=>E 0=.sl (x.map eO)/\E 1=.sl (y.map eO)/\E 5=.os j/\E 7=int i/\H' j=some (bR o)/\E 8=int (if a<yi+c then a+10-(yi+c)else a-(yi+c):Nat)/\E 6=int (if a<yi+c then 1 else 0:Nat)) ?_ fun K hK=>aA (fun M=>?_) (fun M=>?_)
   rotate_left
   . have M:a<yi+c:=by simp at M;omega
     have e2:IntKind.i64.wrap ((a:Int)-yi-c+10)=((a+10-(yi+c):Nat):Int):=by rw[aR (by omega)];omega
     simp only[go_sem,h0,h1,u,J,F,e2];exact hK _ _ ⟨by simp only[go_sem,h0],by simp only[go_sem,h1],by simp only[go_sem,u],by simp only[go_sem,F],Z,by simp only[go_sem,if_pos M],by simp only[go_sem,if_pos M];rfl⟩
   . have M:¬a<yi+c:=by simp at M;omega
     simp only[go_sem,h0,h1,u,J,F];refine hK _ _ ⟨by simp only[go_sem,h0],by simp only[go_sem,h1],by simp only[go_sem,u],by simp only[go_sem,F],Z,?_,by simp only[go_sem,if_neg M];rfl⟩;simp only[go_sem,if_neg M]
     congr 2
     omega
   clear h0 h1 u J F Z;rintro ρ H ⟨h0,h1,u,F,Z,h8,J⟩;simp only[go_sem,h0,h1,u,J,F,h8];refine aX Z ⟨rfl,rfl⟩ ⟨rfl,trivial⟩ (by simp only[bR,Xaa,Xad,List.length_nil];omega) (fun j' ai=>?_);simp only[go_sem,h0,h1,u,J,F,aP (show i<=4611686018427387904 by omega)];exact⟨⟨i+1,j',_,_,I,rfl,rfl,rfl,nV,ho.snoc ab.2,by simp[O],by split <;> omega,ah⟩,by simp only[aE];omega⟩
 . have T:=geB hi T
   subst T;simp only[go_sem,u];obtain⟨_,hV⟩:=Cu (b:=10) (by decide) ho lm O ac (by omega) hc hv;refine PC.useF [j] (.cons _ _ _ _ (.row _ _ _ (by simp only[Xaq,if_true];exact Z) (ConvE.refl _)) .nil) (aa o ho (by omega) (hV.trans (by rw[om,on]))) ?_;simp only[go_sem];exact .refl _
theorem Wp(m n:Nat)(hm:(aO 10 m).length<=1048576)(hn:(aO 10 n).length<=1048576):PC prog 203 [dg m,dg n] (dg (m*n)):=by
 have om:=cD (b:=10) (by decide) m;have on:=cD (b:=10) (by decide) n;have lm:=bZ (b:=10) (by decide) m;have ln:=bZ (b:=10) (by decide) n;have ac:∀l:List Nat,Lim 10 l->l.length<=4611686018427387904->ofL 10 l=m*n->PC prog 151 [.sl (l.map eO)] (dg (m*n)):=fun l h1 h2 h3=>FO h1 h2 h3
 simp only[dg]at ac |-;generalize aO 10 m=x at *;generalize aO 10 n=y at *;generalize aO 10 (m*n)=z at *;have ew:IntKind.i64.wrap ((x.length:Int)+(y.length:Int))=((x.length+y.length:Nat):Int):=by rw[aR (by omega)];omega
 refine pcb (fun t=>t == 15) Tryz.func203 ?_;unfold Tryz.f203;simp only[gdS];simp only[go_sem];simp only[ew];refine⟨by omega,aK fun j hj=>?_⟩;simp only[go_sem];refine⟨fun ρ H=>∃(i:Nat) (out:List Nat),i<=x.length/\ρ 0=.sl (x.map eO)/\ρ 1=.sl (y.map eO)/\ρ 5=.os j/\ρ 6=int i/\H j=some (bR out)/\Lim 10 out/\out.length=x.length+y.length/\ofL 10 out=ofL 10 (x.take i)*ofL 10 y,fun ρ _=>x.length-aT (ρ 6),
   ⟨0,List.replicate (x.length+y.length) 0,Xab _,by simp only[go_sem],by simp only[go_sem],by simp only[go_sem],by simp only[go_sem];rfl,?_,Lim.zeros (by decide) _,by simp,by simp[ofL,Iw]⟩,?_⟩
 . rw[aB]
   simp only[bR,List.map_replicate,zG];rfl
 clear hj;rintro ρ H ⟨i,out,hi,h0,h1,E,F,M,ho,aj,hv⟩;simp only[go_sem,h0,h1,E,F,Xaa];refine aA (fun I=>?_) (fun Z=>?_)
 . have I:=ltB I
   obtain⟨u,aa⟩:=aN I;have b1:=inB I;have au:u<10:=lm u (Xae aa);have an:out[i+y.length]?=some 0:=by
     refine Q5 (b:=10) (by decide) (q:=i+y.length) ?_ (Xaf _) (by omega);rw[hv,Nat.pow_add];have h1:=iR (b:=10) (by decide) (lm.take i);rw[Xal,Xcl hi]at h1;exact Nat.mul_lt_mul'' h1 (iR (b:=10) (by decide) ln)
   simp only[go_sem,h0,h1,E,F];refine⟨fun ρ H=>∃(k c:Nat) (o:List Nat),k<=y.length+1/\ρ 0=.sl (x.map eO)/\ρ 1=.sl (y.map eO)/\ρ 5=.os j/\ρ 6=int i/\ρ 7=int c/\ρ 8=int k/\H j=some (bR o)/\Lim 10 o/\o.length=x.length+y.length/\c<10/\(k<=y.length->ofL 10 o+10^(i+k)*c=ofL 10 out+10^i*(u*ofL 10 (y.take k))/\o[i+y.length]?=some 0)/\(k=y.length+1->c=0/\ofL 10 o=ofL 10 out+10^i*(u*ofL 10 y)),fun ρ _=>y.length+1-aT (ρ 8),
     ⟨0,0,out,Xab _,by simp only[go_sem,h0],by simp only[go_sem,h1],by simp only[go_sem,E],by simp only[go_sem,F],by simp only[go_sem];rfl,by simp only[go_sem];rfl,M,ho,aj,by omega,fun _=>⟨by simp[ofL],an⟩,by omega⟩,?_⟩
   clear h0 h1 E F M;rintro ρ H ⟨k,c,o,hk,h0,h1,E,F,h7,h8,M,hO,ad,hc,hV,hZ⟩;simp only[go_sem,h0,h1,E,F,h7,h8,Xaa];refine aA (fun T=>?_) (fun T=>?_)
   . have T:k<y.length\/0<c:=by simpa using T
     have ai:k<=y.length:=by
       rcases Xar y.length k with h|h
       . have:=(hZ (by omega)).1
         omega
       . exact h
     obtain⟨hV,hz⟩:=hV ai;obtain⟨v,J⟩:=aN (show i+k<o.length by omega);have ar:v<10:=hO v (Xae J);have b3:0<=((i+k:Nat):Int)/\((i+k:Nat):Int)<((bR o).es.length:Nat):=by
       simp only[bR,Xaa];omega
     have ei:IntKind.i64.wrap ((i:Int)+(k:Int))=((i+k:Nat):Int):=by rw[aR (by omega)];omega
     have af:(bR o).es.getD (i+k) []=eO v:=aF J;have aq:y.getD k 0<10:=ln.getD (by decide) k;have ap:u*y.getD k 0<=9*9:=Nat.mul_le_mul (by omega) (by omega);have e1:IntKind.i64.wrap (IntKind.i64.wrap ((v:Int)+IntKind.i64.wrap ((u:Int)*((y.getD k 0:Nat):Int)))+(c:Int))=((v+u*y.getD k 0+c:Nat):Int):=by
       rw[show(u:Int)*((y.getD k 0:Nat):Int)=((u*y.getD k 0:Nat):Int)from(Int.natCast_mul u _).symm];generalize u*y.getD k 0=p at *;rw[show IntKind.i64.wrap (p:Int)=(p:Int)from aR (by omega),show IntKind.i64.wrap ((v:Int)+(p:Int))=(v:Int)+p from aR (by omega),aR (by omega)];omega
     have hq:(v+u*y.getD k 0+c)/10<10:=by omega
     have e2:IntKind.i64.wrap ((((v+u*y.getD k 0+c:Nat):Int)).tdiv 10)=(((v+u*y.getD k 0+c)/10:Nat):Int):=by
       generalize v+u*y.getD k 0+c=p at *;rw[Xcn (by omega),aR (by omega)];omega
     have e3:(((v+u*y.getD k 0+c:Nat):Int)).tmod 10=(((v+u*y.getD k 0+c)%10:Nat):Int):=rfl;simp only[go_sem,h0,h1,E,F,h7,h8];refine dJ (by rfl) (by kernel_rfl) ?_;simp only[go_sem,h0,h1,E,F,h7,h8,ei,M,b3,af,aF aa,b1,Xaa];have O:i+k<(bR o).es.length:=by simp only[bR,Xaa];omega
     refine⟨rfl,⟨O,Nat.zero_lt_one⟩,_,(pL y k (by omega) (by omega)).q rfl,?_⟩;simp only[go_sem,h0,h1,E,F,h7,h8,e1,ei,M,b3,af,e3];refine⟨by decide,rfl,eM so3 M ⟨O,rfl,Xaf 1⟩ ?_⟩;generalize hP:aI H j _=HP;have ag:HP j=some (bR (o.set (i+k) ((v+u*y.getD k 0+c)%10))):=by
       rw[<-hP,aB];exact congrArg some (zM (q:=(v+u*y.getD k 0+c)%10) J)
     clear hP M;simp only[go_sem,h0,h1,E,F,h7,h8,e2,aP (show k<=4611686018427387904 by omega)];refine⟨by decide,⟨k+1,_,_,by omega,rfl,rfl,ag,hO.set (Xbm _ (by decide)),by simp[ad],hq,fun ah=>?_,fun ah=>?_⟩,by simp only[aE];omega⟩
     . obtain⟨yk,ab⟩:=aN (show k<y.length by omega)
       have am:y.getD k 0=yk:=by simp[List.getD,ab]
       rw[am];exact⟨Mq (b:=10) (by decide) J ab hV,by rw[List.getElem?_set_ne (by omega)];exact hz⟩
     . have al:k=y.length:=by omega
       subst al;have ak:v=0:=by rw[J]at hz;exact Option.some.inj hz
       have ao:y.getD y.length 0=0:=by simp[List.getD]
       rw[ak,ao,Nat.mul_zero,Nat.zero_add,Xba hc];exact⟨by omega,RZ (b:=10) hz hV⟩
   . have T : y.length <= k /\ c = 0 := by
       simp at T;omega
     have ae:ofL 10 o=ofL 10 out+10^i*(u*ofL 10 y):=by
       rcases Xar y.length k with h|h
       . exact(hZ (by omega)).2
       . have h1:=(hV h).1
         rw[T.2,Nat.mul_zero,Nat.add_zero,Xan T.1]at h1;exact h1
     simp only[go_sem,h0,h1,E,F,h7,h8,aP (show i<=4611686018427387904 by omega)];refine⟨⟨i+1,o,I,rfl,M,hO,ad,?_⟩,by simp only[aE];omega⟩;rw[ae,hv,jA 10 aa,Nat.add_mul,Nat.mul_assoc]
 . have Z:=geB hi Z
   subst Z;rw[Xag]at hv;simp only[go_sem,E];refine PC.useF [j] (.cons _ _ _ _ (.row _ _ _ (by simp only[Xaq,if_true];exact M) (ConvE.refl _)) .nil) (ac out ho (by omega) (by rw[hv,om,on])) ?_;simp only[go_sem];exact .refl _
def Xc:AV->Nat
 | .sl es=>ofL 10 (es.map fun e=>match e with|[.v (.int _ z)]=>z.toNat|_=>0)
 | _=>0
theorem RT(n:Nat):Xc (dg n)=n:=by
 unfold Xc dg;simp only[List.map_map];have:(aO 10 n).map ((fun e=>match e with|[.v (.int _ z)]=>z.toNat|_=>0) ∘ eO)=aO 10 n:=by
   conv=>rhs;rw[<-List.map_id (aO 10 n)]
   exact List.map_congr_left fun x _=>rfl
 rw[this,cD (by decide)]
theorem Ub(m n:Nat)(hm:(aO 10 m).length<=1048570)(hn:0<n)(a4:(aO 10 n).length<=1048570):PC prog 138 [dg m,dg n] (.tup [dg (m/n),dg (m%n)]):=by
 have om:=cD (b:=10) (by decide) m;have lm:=bZ (b:=10) (by decide) m;rw[show dg m=.sl ((aO 10 m).map eO)from rfl];generalize aO 10 m=x at *;refine pcb (fun t=>t == 12||t == 24) Tryz.func138 ?_;unfold Tryz.f138;simp only[gdS];simp only[go_sem];refine⟨by omega,aK fun j hj=>?_⟩;simp only[go_sem,Xaa];refine⟨fun ρ H=>∃(k r:Nat) (E:List Nat),k<=x.length/\ρ 0=.sl (x.map eO)/\ρ 1=dg n/\ρ 6=.os j/\ρ 7=dg r/\ρ 8=int ((k:Int)-1)/\H j=some (bR E)/\Lim 10 E/\E.length=x.length/\r<n/\(∀i,i<k->E[i]?=some 0)/\ofL 10 (x.drop k)=ofL 10 (E.drop k)*n+r,fun ρ _=>upN (ρ 8),
   ⟨x.length,0,List.replicate x.length 0,Xaf _,by simp only[go_sem],by simp only[go_sem],by simp only[go_sem],by simp only[go_sem,dg,dD,Xbg],by simp only[go_sem];rw[aR (by omega)],?_,Lim.zeros (by decide) _,by simp,hn,?_,?_⟩,?_⟩
 . rw[aB]
   simp only[bR,List.map_replicate,zG];rfl
 . intro i hi
   simp[List.getElem?_replicate,hi]
 . rw[Xca,Xby (by simp)];simp[ofL]
 clear hj;rintro ρ H ⟨k,r,E,hk,h0,h1,F,J,I,O,ag,au,hr,hz,hv⟩;simp only[go_sem,h0,h1,F,J,I];refine aA (fun aq=>?_) (fun ao=>?_)
 . obtain⟨i,rfl⟩:∃i,k=i+1:=⟨k-1,by have:=of_decide_eq_true aq;omega⟩
   have ei:((i+1:Nat):Int)-1=(i:Int):=by omega
   rw[ei]at I;obtain⟨a,ha⟩:=aN (show i<x.length by omega);have aj:a<10:=lm a (Xae ha);have b1:=inB (show i<x.length by omega);have a0:(aO 10 r).length<=(aO 10 n).length:=cC (by decide) (by omega);have am:=cD (b:=10) (by decide) r;have Z:=bZ (b:=10) (by decide) r;simp only[go_sem,h0,h1,F,J,I,ei,aF ha,b1,Xaa];obtain⟨hV,hQ,a5⟩:=NH (b:=10) (a:=n) (by decide) ha aj hr (show i<E.length by omega) hv;have ae:ofL 10 (a::aO 10 r)=a+10*r:=by rw[ofL,am]
   have af:Lim 10 (a::aO 10 r):=fun y hy=>by
     rcases Xbn.1 hy with rfl|hy
     . exact aj
     . exact Z y hy
   have a6:(aO 10 (a+10*r)).length<=1048575:=by
     refine Xaj (gF (b:=10) (k:=(aO 10 r).length+1) (by decide) ?_) (by omega);have h1:=iR (b:=10) (by decide) af;rw[ae]at h1;simpa using h1
   generalize a7:a+10*r=R at *;refine aK fun j2 ai=>?_
   simp only[go_sem,h0,h1,F,J,I];have aa:=jV (r':=⟨3,1,[[int (a:Int)]]⟩) O ai;refine aX (aB _ _ _) ⟨rfl,rfl⟩ (arC _) (by simp only[Xaa,Xad,List.length_nil];omega) (fun i2 ah=>?_);have ab:=dH aa (aQ O ai).symm ah (r':=⟨3,1,[[int (a:Int)]]++(aO 10 r).map eO⟩);have aw:j≠i2:=aQ aa ah;simp only[go_sem,h0,h1,F,J,I];refine PC.useF [i2] (.cons _ _ _ _ (.row _ _ _ (by simp only[Xaq,if_true];exact aB _ _ _) (ConvE.refl _)) .nil) (FO af (by simp;omega) ae) ?_;generalize ak:(fun k=>if k∈[i2]then none else _)=HN;have ad:HN j=some (bR E):=by rw[<-ak];simp only[Xaq,if_neg aw];exact ab
   clear ak ab aa O;simp only[go_sem,h0,h1,F,J,I];refine⟨fun ρ H=>∃(d r':Nat),ρ 0=.sl (x.map eO)/\ρ 1=dg n/\ρ 6=.os j/\ρ 7=dg r'/\ρ 8=int i/\H j=some (bR (E.set i d))/\d*n+r'=R,fun ρ _=>Xc (ρ 7),
     ⟨0,R,by simp only[go_sem,h0],by simp only[go_sem,h1],by simp only[go_sem,F],by simp only[go_sem],by simp only[go_sem,I],?_,by omega⟩,?_⟩
   . rw[ad]
     have h2:=hz i (by omega);obtain⟨h3,h4⟩:=List.getElem?_eq_some_iff.1 h2
     congr 2
     rw[<-h4];exact(List.set_getElem_self h3).symm
   clear h0 h1 F J I ad;rintro ρ H ⟨d,r',h0,h1,F,J,I,O,hd⟩;have az:=cC (b:=10) (by decide) (show r'<=R by omega);simp only[go_sem,h0,h1,F,J,I];refine PC.use (wF r' n (by omega) (by omega)) ?_;simp only[go_sem,h0,h1,F,J,I,Jr];have ac:d<10:=by
     rcases Xar d 10 with h|h
     . exact h
     . have:=Xcq n h
       omega
   refine aA (fun M=>?_) (fun u=>?_)
   . have M:n<=r':=by have:=of_decide_eq_true M;omega
     have hg:(E.set i d)[i]?=some d:=List.getElem?_set_self (by omega);have av:(bR (E.set i d)).es.getD i []=eO d:=aF hg;have b3:0<=(i:Int)/\(i:Int)<((bR (E.set i d)).es.length:Nat):=by
       simp only[bR,Xaa,Xbh];omega
     have T:i<(bR (E.set i d)).es.length:=by simp only[bR,Xaa,Xbh];omega
     simp only[go_sem,h0,h1,F,J,I];refine PC.use (B8 r' n (by omega) M) ?_;simp only[go_sem,h0,h1,F,J,I,O,b3,av,aP (show d<=4611686018427387904 by omega)];refine⟨rfl,⟨T,Nat.zero_lt_one⟩,rfl,eM so3 O ⟨T,rfl,Xaf 1⟩ ?_⟩;generalize hP:aI H j _=HP;have an:HP j=some (bR (E.set i (d+1))):=by
       rw[<-hP,aB];refine(congrArg some (zM (q:=d+1) hg)).trans ?_;rw[List.set_set]
     clear hP O;simp only[go_sem,h0,h1,F,J,I];refine⟨⟨d+1,r'-n,rfl,an,by rw[Nat.add_mul];omega⟩,?_⟩;show Xc (dg (r'-n))<Xc (dg r');rw[RT,RT];omega
   . have u:r'<n:=by have:=of_decide_eq_false u;omega
     have ay:R/n=d:=by rw[<-hd,Xcc,Nat.add_mul_div_right _ _ hn,Nat.div_eq_of_lt u,Nat.zero_add]
     have ar:R%n=r':=by rw[<-hd,Xcc,Nat.add_mul_mod_self_right,Xba u]
     rw[ay,ar]at hV;simp only[go_sem,h0,h1,F,J,I,show IntKind.i64.wrap ((i:Int)-1)=(i:Int)-1 from aR (by omega)];refine⟨⟨i,r',E.set i d,by omega,rfl,rfl,O,ag.set ac,by simp[au],u,fun q hq=>?_,hV⟩,by simp only[Bb];omega⟩;rw[List.getElem?_set_ne (by omega)];exact hz q (by omega)
 . have al:k=0:=by have:=of_decide_eq_false ao;omega
   subst al;rw[Xbj,Xbj,om]at hv;have ap:m/n=ofL 10 E:=by
     rw[hv,Xcc,Nat.add_mul_div_right _ _ hn,Nat.div_eq_of_lt hr,Nat.zero_add]
   have ax:m%n=r:=by
     rw[hv,Xcc,Nat.add_mul_mod_self_right,Xba hr]
   simp only[go_sem,F,J];refine PC.useF [j] (.cons _ _ _ _ (.row _ _ _ (by simp only[Xaq,if_true];exact O) (ConvE.refl _)) .nil) (FO ag (by omega) ap.symm) ?_;simp only[go_sem,J,ax];exact .refl _
theorem Ci(m:Nat):(aO 10 m).length<=(dec m).size:=by
 by_cases h:m=0
 . rw[h,dD];simp
 . have:=congrArg List.length (CM h)
   rw[iA,<-this];simp[txt]
theorem oS{m:Nat}(h:m<cK):(aO 10 m).length<=4096:=by
 have h1:=Ci m;have u:=(gI m).2 h;omega
theorem vJ(m:Bool)(n:Nat)(h:(aO 10 n).length<=1048576):PC prog 91 [boo m,dg n] (str (zed (sg m n))):=by
 have:=SC m (aO 10 n) (bZ (by decide) n) h
 rwa [cD (by decide)]at this
theorem abR(s:ByteArray)(h:s.size<=1048576):PC prog 205 [str s] (int (xG s)):=by
 have M:=cF s;refine pcd Tryz.func205 ?_;unfold Tryz.f205;simp only[gdS];simp only[go_sem];refine PC.use (tU s h) ?_;simp only[go_sem,lK];refine aA (fun E=>?_) (fun E=>?_)
 . simp only[go_sem]
   refine cI ?_;unfold xG;split
   . rename_i u
     rw[u]at E;have:s=dec 0:=jQ.1 (by simpa using E);rw[this,<-show zed ((0:Nat):Int)=dec 0 from cN 0,bX];rfl
   . rfl
 have u:dV s=true/\eqB s (dec 0)=false:=by
   simp only[Xak,Xbl]at E;exact E
 obtain⟨u,h0⟩:=u;have T:0<s.size:=by
   rcases Xbx s.size with h|h
   . exfalso
     rw[<-M,Xas]at h;have F:=sR s;rw[h,List.drop_nil]at F;unfold dV dC eD at u;rw[F]at u;cases u
   . exact h
 simp only[go_sem];have J:=uA s;rw[show decide ((s.size:Int)>0)=true by simp;omega,Xaz]at J;rw[J];have I:zed (eU s)=s:=rD u;have O:eJ s=decide (eU s<0):=by rw[<-I,oO,bX]
 have Z:eU s≠0:=fun e=>kW.1 h0 (by rw[<-I,e];exact cN 0)
 refine⟨⟨by omega,by omega⟩,?_⟩;rw[O];refine aA (fun E=>?_) (fun E=>?_)
 . have:=of_decide_eq_true E
   simp only[go_sem];exact cI (by unfold xG;rw[if_pos u,Int.sign_eq_neg_one_of_neg this])
 . have:=of_decide_eq_false E
   simp only[go_sem];exact cI (by unfold xG;rw[if_pos u,Int.sign_eq_one_of_pos (by omega)])
theorem Ui{s:ByteArray}:iO s s=0->∃n:Int,s=zed n/\n.natAbs<cK:=fun h=>by
 obtain⟨m,n,e,_,u,_⟩:=mZ h;exact⟨m,e,u⟩
theorem X3(s:ByteArray)(h:s.size<=1048576):PC prog 129 [str s] (.tup (if iO s s=0 then[str (dec (eU s).natAbs),int 0]else[str emp,int (iO s s)])):=by
 have u:=Bs s s h h;by_cases E:iO s s=0
 . rw[if_pos E]
   rw[E]at u;obtain⟨n,rfl,I⟩:=Ui E;have J:=oS I;refine pcd Tryz.func129 ?_;unfold Tryz.f129;simp only[gdS];simp only[go_sem];refine PC.use u ?_;simp only[go_sem];refine aA (fun F=>by cases F) (fun _=>?_);simp only[go_sem];refine PC.use (nK n h) ?_;simp only[go_sem];refine PC.use (vJ false n.natAbs (by omega)) ?_;simp only[go_sem];rw[bX,show sg false n.natAbs=((n.natAbs:Nat):Int)from rfl,cN];exact .refl _
 . rw[if_neg E]
   refine pcd Tryz.func129 ?_;unfold Tryz.f129;simp only[gdS];simp only[go_sem];refine PC.use u ?_;simp only[go_sem];refine aA (fun _=>?_) (fun F=>absurd (by simpa using F) E);simp only[go_sem];exact .refl _
theorem agL(a b:Bool)(m n:Nat)(J:(aO 10 m).length<=1048570)(I:(aO 10 n).length<=1048570)(F:(aO 10 (m+n)).length<=1048576):PC prog 204 [boo a,dg m,boo b,dg n] (str (zed (sg a m+sg b n))):=by
 refine pcd Tryz.func204 ?_;unfold Tryz.f204;simp only[gdS];simp only[go_sem];refine aA (fun h=>?_) (fun h=>?_)
 . have u:a=b:=by simpa using h
   subst u;simp only[go_sem];refine PC.use (RJ m n (by omega) (by omega)) ?_;simp only[go_sem];refine PC.use (vJ a (m+n) F) ?_;simp only[go_sem];rw[show sg a (m+n)=sg a m+sg a n by unfold sg;split <;> omega];exact .refl _
 have u:b= !a:=by cases a <;> cases b <;> simp_all
 subst u;simp only[go_sem];refine PC.use (wF m n (by omega) (by omega)) ?_;simp only[go_sem,Jr];refine aA (fun E=>?_) (fun E=>?_)
 . have E:n<=m:=by have:=of_decide_eq_true E;omega
   simp only[go_sem];refine PC.use (B8 m n (by omega) E) ?_;simp only[go_sem];have:=cC (b:=10) (by decide) (show m-n<=m by omega);refine PC.use (vJ a (m-n) (by omega)) ?_;simp only[go_sem];rw[show sg a (m-n)=sg a m+sg (!a) n by unfold sg;cases a <;> simp <;> omega];exact .refl _
 . have E:m<n:=by have:=of_decide_eq_false E;omega
   simp only[go_sem];refine PC.use (B8 n m (by omega) (by omega)) ?_;simp only[go_sem];have:=cC (b:=10) (by decide) (show n-m<=n by omega);refine PC.use (vJ (!a) (n-m) (by omega)) ?_;simp only[go_sem];rw[show sg (!a) (n-m)=sg a m+sg (!a) n by unfold sg;cases a <;> simp <;> omega];exact .refl _
theorem LL(a b:ByteArray)(ha:a.size<=1048570)(hb:b.size<=1048570):PC prog 82 [str a,str b] (int (NZ a b)):=by
 refine pcd Tryz.func82 ?_;unfold Tryz.f82;simp only[gdS];simp only[go_sem];refine PC.use (tU a (by omega)) ?_;simp only[go_sem];refine⟨_,fun _=>(tU b (by omega)).q rfl,?_⟩;simp only[go_sem];refine aA (fun I=>?_) (fun I=>?_)
 . simp only[go_sem]
   refine cI ?_;unfold NZ;rw[if_neg];rintro⟨h1,u⟩;rw[h1,u]at I;cases I
 have M:dV a=true/\dV b=true:=by simpa using I
 rw[show NZ a b=fR (eU a) (eU b)from if_pos M];have O:=rD M.1;have J:=rD M.2;have la:(aO 10 (eU a).natAbs).length<=1048570:=by
   have h1:=Ci (eU a).natAbs;have u:=BJ (zed (eU a));rw[iD,O]at u;omega
 have lb:(aO 10 (eU b).natAbs).length<=1048570:=by
   have h1:=Ci (eU b).natAbs;have u:=BJ (zed (eU b));rw[iD,J]at u;omega
 have T:=nK (eU a) (by rw[O];omega);have Z:=nK (eU b) (by rw[J];omega);rw[O]at T;rw[J]at Z;generalize eU a=m at *;generalize eU b=n at *;simp only[go_sem];refine PC.use T ?_;simp only[go_sem];refine PC.use Z ?_;simp only[go_sem];refine aA (fun u=>?_) (fun u=>?_)
 . have u:m<0/\n<0:=by simpa using u
   simp only[go_sem];refine PC.use (wF n.natAbs m.natAbs (by omega) (by omega)) ?_;simp only[go_sem];refine cI ?_;unfold fR;have c1:((n.natAbs:Nat):Int)<((m.natAbs:Nat):Int)↔m<n:=by omega
   have c2:((m.natAbs:Nat):Int)<((n.natAbs:Nat):Int)↔n<m:=by omega
   simp only[c1,c2]
 . simp only[go_sem]
   refine aA (fun F=>?_) (fun F=>?_)
   . have F:m<0:=of_decide_eq_true F
     have E:¬n<0:=fun h=>by simp[F,h]at u
     simp only[go_sem];exact cI (by rw[gV (by omega)])
   . have F:¬m<0:=of_decide_eq_false F
     simp only[go_sem];refine aA (fun E=>?_) (fun E=>?_)
     . have E:n<0:=of_decide_eq_true E
       simp only[go_sem];exact cI (by rw[gT (by omega)])
     . have E:¬n<0:=of_decide_eq_false E
       simp only[go_sem];refine PC.use (wF m.natAbs n.natAbs (by omega) (by omega)) ?_;simp only[go_sem];exact cI (by rw[show((m.natAbs:Nat):Int)=m by omega,show((n.natAbs:Nat):Int)=n by omega])
theorem SQ{n:Int}{k:Nat}(h:(aO 10 n.natAbs).length<=k):(zed n).size<=k+2:=by
 have h1:(dP (zed n)).size=(dec n.natAbs).size:=by rw[iD]
 have u:(dec n.natAbs).size<=k+1:=by
   rw[iA];by_cases h0:n.natAbs=0
   . rw[h0,Lib.decDigits_one (by omega)];simp
   . have:=congrArg List.length (CM h0)
     rw[<-this];simp[txt];omega
 unfold dP at h1;split at h1
 . rw[<-cF,iK,Xbd]at h1
   rw[<-cF];omega
 . omega
theorem SR(m n:Nat):(aO 10 (m+n)).length<=max (aO 10 m).length (aO 10 n).length+1:=by
 refine gF (by decide) ?_;have h1:=iR (b:=10) (by decide) (bZ (b:=10) (by decide) m);have u:=iR (b:=10) (by decide) (bZ (b:=10) (by decide) n);rw[cD (by decide)]at h1 u;have F:10^(aO 10 m).length<=10^max (aO 10 m).length (aO 10 n).length:=Xat (by decide) (by omega);have E:10^(aO 10 n).length<=10^max (aO 10 m).length (aO 10 n).length:=Xat (by decide) (by omega);rw[Xbu];omega
theorem abA(m n:Nat):(aO 10 (m*n)).length<=(aO 10 m).length+(aO 10 n).length:=by
 refine gF (by decide) ?_;have h1:=iR (b:=10) (by decide) (bZ (b:=10) (by decide) m);have u:=iR (b:=10) (by decide) (bZ (b:=10) (by decide) n);rw[cD (by decide)]at h1 u;rw[Nat.pow_add];exact Nat.mul_lt_mul'' h1 u
theorem agZ(a b:ByteArray)(J:a.size<=1048576)(E:b.size<=1048576):PC prog 133 [str a,str b] (.tup [str (GZ a b).1,int (GZ a b).2]):=by
 refine pcd Tryz.func133 ?_;unfold Tryz.f133;simp only[gdS];simp only[go_sem];refine PC.use (Bs a b J E) ?_;simp only[go_sem];refine aA (fun h=>?_) (fun h=>?_)
 . have h:iO a b≠0:=by simpa using h
   simp only[go_sem];rw[show GZ a b=(emp,iO a b)from if_neg h];exact .refl _
 have h:iO a b=0:=by simpa using h
 rw[show GZ a b=szZ (eU a+eU b)from if_pos h];obtain⟨m,n,rfl,rfl,I,F⟩:=mZ h;have T:=oS I;have O:=oS F;have Z:=SR m.natAbs n.natAbs;have u:=cC (b:=10) (by decide) (show(m+n).natAbs<=m.natAbs+n.natAbs by omega);have M:=SQ (n:=m+n) (Xaf _);rw[bX,bX];simp only[go_sem];refine PC.use (nK m (by omega)) ?_;simp only[go_sem];refine PC.use (nK n (by omega)) ?_;simp only[go_sem];refine PC.use (agL _ _ m.natAbs n.natAbs (by omega) (by omega) (by omega)) ?_;rw[CK,CK];simp only[go_sem];refine PC.use (H5 (m+n) (by omega)) ?_;simp only[go_sem];exact .refl _
theorem Fw(a b:ByteArray)(M:a.size<=1048576)(F:b.size<=1048576):PC prog 132 [str a,str b] (.tup [str (tH a b).1,int (tH a b).2]):=by
 refine pcd Tryz.func132 ?_;unfold Tryz.f132;simp only[gdS];simp only[go_sem];refine PC.use (Bs a b M F) ?_;simp only[go_sem];refine aA (fun h=>?_) (fun h=>?_)
 . have h:iO a b≠0:=by simpa using h
   simp only[go_sem];rw[show tH a b=(emp,iO a b)from if_neg h];exact .refl _
 have h:iO a b=0:=by simpa using h
 rw[show tH a b=szZ (eU a*eU b)from if_pos h];obtain⟨m,n,rfl,rfl,J,I⟩:=mZ h;have Z:=oS J;have T:=oS I;have hs:=abA m.natAbs n.natAbs;have O:=SQ (n:=m*n) (k:=8192) (by rw[Int.natAbs_mul];omega);have E:sg (decide (m<0) != decide (n<0)) (m.natAbs*n.natAbs)=m*n:=by
   unfold sg;rcases Xbq m 0 with h1|h1 <;> rcases Xbq n 0 with u|u
   . have e:m*n=(m.natAbs:Int)*n.natAbs:=by rw[show(m.natAbs:Int)= -m by omega,show(n.natAbs:Int)= -n by omega,Int.neg_mul_neg]
     rw[if_neg (by simp[h1,u]),e,Int.natCast_mul]
   . have e:m*n= -((m.natAbs:Int)*n.natAbs):=by rw[show(m.natAbs:Int)= -m by omega,show(n.natAbs:Int)=n by omega,Int.neg_mul,Int.neg_neg]
     rw[if_pos (by simp[h1];omega),e,Int.natCast_mul]
   . have e:m*n= -((m.natAbs:Int)*n.natAbs):=by rw[show(m.natAbs:Int)=m by omega,show(n.natAbs:Int)= -n by omega,Int.mul_neg,Int.neg_neg]
     rw[if_pos (by simp[u];omega),e,Int.natCast_mul]
   . have e:m*n=(m.natAbs:Int)*n.natAbs:=by rw[show(m.natAbs:Int)=m by omega,show(n.natAbs:Int)=n by omega]
     rw[if_neg (by simp;omega),e,Int.natCast_mul]
 rw[bX,bX];simp only[go_sem];refine PC.use (nK m (by omega)) ?_;simp only[go_sem];refine PC.use (nK n (by omega)) ?_;simp only[go_sem];refine PC.use (Wp m.natAbs n.natAbs (by omega) (by omega)) ?_;simp only[go_sem];refine PC.use (vJ _ (m.natAbs*n.natAbs) (by omega)) ?_;rw[show sg (!(decide (m<0) == decide (n<0))) (m.natAbs*n.natAbs)=m*n from E];simp only[go_sem];refine PC.use (H5 (m*n) (by omega)) ?_;simp only[go_sem];exact .refl _
theorem ahG:dg 1=.sl [[int 1]]:=by
 have:aO 10 1=[1]:=by rw[lL (by decide) (by decide),show 1/10=0 from rfl,dD]
 simp only[dg,this];rfl
theorem Kv(a b:ByteArray)(ha:a.size<=1048576)(u:b.size<=1048576):PC prog 81 [str a,str b] (.tup [str (rX a b).1,str (rX a b).2.1,int (rX a b).2.2]):=by
 refine pcd Tryz.func81 ?_;unfold Tryz.f81;simp only[gdS];simp only[go_sem];refine PC.use (Bs a b ha u) ?_;simp only[go_sem];refine aA (fun h=>?_) (fun h=>?_)
 . have h:iO a b≠0:=by simpa using h
   simp only[go_sem];rw[show rX a b=(emp,emp,iO a b)from if_neg h];exact .refl _
 have h:iO a b=0:=by simpa using h
 obtain⟨m,n,rfl,rfl,hm,hn⟩:=mZ h;have lm:=oS hm;have ln:=oS hn;have e:rX (zed m) (zed n)=if n=0 then(emp,emp,10)else(zed (m.fdiv n),zed (m.fmod n),0):=by unfold rX;rw[if_pos h,bX,bX]
 rw[e];simp only[go_sem];refine PC.use (nK m (by omega)) ?_;simp only[go_sem];refine PC.use (nK n (by omega)) ?_;simp only[go_sem,Xaa];refine aA (fun E=>?_) (fun E=>?_)
 . have h0 : n = 0 := by
     have:(aO 10 n.natAbs).length=0:=by rw[Xaw]at E;omega
     have:=(mU (b:=10) (by decide)).1 (Xas.1 this);omega
   simp only[go_sem];rw[if_pos h0];exact .refl _
 have h0:n≠0:=fun e=>by rw[e,show(0:Int).natAbs=0 from rfl,dD]at E;cases E
 have O:0<n.natAbs:=by omega
 rw[if_neg h0];simp only[go_sem];refine PC.use (Ub m.natAbs n.natAbs (by omega) O (by omega)) ?_;simp only[go_sem,Xaa];have J:=Xbm m.natAbs O;have lq:=cC (b:=10) (by decide) (Nat.div_le_self m.natAbs n.natAbs);have lr:=cC (b:=10) (by decide) (Nat.le_of_lt J);have hz:decide (((aO 10 (m.natAbs%n.natAbs)).length:Int)>0)= !decide (m.natAbs%n.natAbs=0):=by
   rw[<-decide_not,decide_eq_decide];have:=mU (b:=10) (n:=m.natAbs%n.natAbs) (by decide);have h2:=Xas (l:=aO 10 (m.natAbs%n.natAbs));constructor
   . intro h3 h4
     rw[h4,dD]at h3;simp at h3
   . intro h3
     have:(aO 10 (m.natAbs%n.natAbs)).length≠0:=fun e=>h3 (this.1 (h2.1 e))
     omega
 rw[hz];refine bH (fun F H'=>∃q r:Nat,F 8=boo (decide (m<0))/\F 10=boo (decide (n<0))/\F 12=dg q/\F 13=dg r/\(aO 10 q).length<=5000/\(aO 10 r).length<=5000/\sg (!(decide (m<0) == decide (n<0))) q=m.fdiv n/\sg (decide (n<0)) r=m.fmod n) ?_ fun K hK=>aA (fun u=>?_) (fun u=>?_)
 rotate_left
 . have u : decide (m < 0) ≠ decide (n < 0) /\ m.natAbs % n.natAbs ≠ 0 := by
     simp only[Xap,Xbp,beq_eq_false_iff_ne,ne_eq,decide_eq_false_iff_not]at u;exact u
   obtain⟨f1,Z⟩:=D4 h0 u.1 u.2;have la:=SR (m.natAbs/n.natAbs) 1;have l1:(aO 10 1).length=1:=by rw[lL (by decide) (by decide),show 1/10=0 from rfl,dD];rfl
   have l2:=cC (b:=10) (by decide) (show n.natAbs-m.natAbs%n.natAbs<=n.natAbs by omega);have hp:=RJ (m.natAbs/n.natAbs) 1 (by omega) (by omega);rw[ahG]at hp;simp only[go_sem];refine PC.use hp ?_;simp only[go_sem];refine PC.use (B8 n.natAbs (m.natAbs%n.natAbs) (by omega) (by omega)) ?_;simp only[go_sem];refine hK _ _ ⟨m.natAbs/n.natAbs+1,n.natAbs-m.natAbs%n.natAbs,by simp only[go_sem],by simp only[go_sem],by simp only[go_sem],by simp only[go_sem],by omega,by omega,?_,Z.symm⟩;rw[f1];unfold sg;rw[if_pos (by simpa using u.1)]
 . have u : decide (m < 0) = decide (n < 0) \/ m.natAbs % n.natAbs = 0 := by
     by_cases h1:decide (m<0)=decide (n<0)
     . exact .inl h1
     . refine .inr ?_
       have h2:(!(decide (m<0) == decide (n<0)))=true:=by simpa using h1
       rw[h2,Xaz,Xbl]at u;exact of_decide_eq_true u
   obtain⟨f1,Z⟩:=Ia h0 u;simp only[go_sem];exact hK _ _ ⟨_,_,by simp only[go_sem],by simp only[go_sem],by simp only[go_sem],by simp only[go_sem],by omega,by omega,f1.symm,Z.symm⟩
 rintro ρ H ⟨q,r,h8,M,I,T,hq,hr,f1,Z⟩;simp only[go_sem,h8,M,I,T];refine PC.use (vJ _ q (by omega)) ?_;simp only[go_sem,h8,M,I,T];refine PC.use (vJ _ r (by omega)) ?_;simp only[go_sem,f1,Z];exact .refl _
theorem X6(z:Int):z.tmod 10=if z<0 then -((z.natAbs%10:Nat):Int)else((z.natAbs%10:Nat):Int):=by
 rcases Xbq z 0 with h|h
 . rw[if_pos h]
   obtain⟨N,rfl⟩:∃N:Nat,z= -(N:Int):=⟨z.natAbs,by omega⟩;rw[Int.neg_tmod,Int.natAbs_neg,Xay];rfl
 . rw[if_neg (by omega)]
   conv=>lhs;rw[show z=((z.natAbs:Nat):Int)by omega]
   rfl
theorem EQ(z:Int):z.tdiv 10=if z<0 then -((z.natAbs/10:Nat):Int)else((z.natAbs/10:Nat):Int):=by
 rcases Xbq z 0 with h|h
 . rw[if_pos h]
   obtain⟨N,rfl⟩:∃N:Nat,z= -(N:Int):=⟨z.natAbs,by omega⟩;rw[Int.neg_tdiv,Int.natAbs_neg,Xay];rfl
 . rw[if_neg (by omega)]
   conv=>lhs;rw[show z=((z.natAbs:Nat):Int)by omega]
   rfl
def akK:AV->Nat
 | .v (.int _ z)=>z.natAbs
 | _=>0
theorem LY(k:IntKind)(z:Int):akK (.v (.int k z))=z.natAbs:=(rfl)
theorem azT(n:Int)(h0: -9223372036854775808<=n)(h1:n<=9223372036854775807):PC prog 55 [int n] (str (zed n)):=by
 refine pcb (fun t=>t == 3) Tryz.func55 ?_;unfold Tryz.f55;simp only[gdS];simp only[go_sem];refine aK fun j hj=>?_
 simp only[go_sem];refine⟨fun ρ H=>∃(z:Int) (j:Nat) (o:List Nat),ρ 0=int z/\ρ 3=.os j/\ρ 4=boo (decide (n<0))/\H j=some (bR o)/\Lim 10 o/\o.length+(aO 10 z.natAbs).length=(aO 10 n.natAbs).length/\(z<0->n<0)/\(0<z->0<n)/\ -9223372036854775808<=z/\z<=9223372036854775807/\ofL 10 o+10^o.length*z.natAbs=n.natAbs,fun ρ _=>akK (ρ 0),
   ⟨n,j,[],by simp only[go_sem],by simp only[go_sem],by simp only[go_sem],zE,by simp[Lim],by simp,id,id,h0,h1,by simp[ofL]⟩,?_⟩
 have ag:(aO 10 n.natAbs).length<=20:=gF (by decide) (by omega);clear hj j;rintro ρ H ⟨z,j,o,F,u,E,M,ho,ad,ae,aa,b0,b1,hv⟩;simp only[go_sem,F,u,E];refine aA (fun I=>?_) (fun I=>?_)
 . have hz:z≠0:=by simpa using I
   have ab:z.natAbs≠0:=by omega
   have em:(z.tmod 10).natAbs=z.natAbs%10:=by rw[X6];split <;> omega
   have ed:(z.tdiv 10).natAbs=z.natAbs/10:=by rw[EQ];split <;> omega
   have T:z.tdiv 10<0->z<0:=fun h=>by rw[EQ]at h;split at h <;> omega
   have af:0<z.tdiv 10->0<z:=fun h=>by rw[EQ]at h;split at h <;> omega
   have ac:ofL 10 (o++[z.natAbs%10])+10^(o++[z.natAbs%10]).length*(z.natAbs/10)=n.natAbs:=by
     rw[<-hv,rB,Xac,Xad,List.length_nil,Xbu];have e:=Nat.mod_add_div z.natAbs 10;have e2:10^o.length*(z.natAbs%10+10*(z.natAbs/10))=10^o.length*z.natAbs:=by rw[e]
     grind
   have O:z.natAbs%10<10:=Xbm _ (by decide);have Z:(o++[z.natAbs%10]).length+(aO 10 (z.natAbs/10)).length=(aO 10 n.natAbs).length:=by
     rw[<-ad,lL (n:=z.natAbs) (by decide) ab];simp;omega
   have ew:IntKind.i64.wrap (z.tdiv 10)=z.tdiv 10:=aR (by omega);simp only[go_sem,F,u,E];refine⟨by decide,?_⟩;refine bH (fun J H'=>J 0=int z/\J 3=.os j/\J 4=boo (decide (n<0))/\J 5=int (z.natAbs%10:Nat)/\H' j=some (bR o)) ?_ fun K hK=>aA (fun I=>?_) (fun I=>?_)
   rotate_left
   . have I:=of_decide_eq_true I
     have e1:IntKind.i64.wrap (0-z.tmod 10)=((z.natAbs%10:Nat):Int):=by rw[aR (by omega)];omega
     simp only[go_sem,F,u,E,e1];exact hK _ _ ⟨by simp only[go_sem,F],by simp only[go_sem,u],by simp only[go_sem,E],by simp only[go_sem],M⟩
   . have I:=of_decide_eq_false I
     have e1:z.tmod 10=((z.natAbs%10:Nat):Int):=by omega
     simp only[go_sem,F,u,E];exact hK _ _ ⟨by simp only[go_sem,F],by simp only[go_sem,u],by simp only[go_sem,E],by simp only[go_sem];rw[e1],M⟩
   clear F u E M;rintro ρ H ⟨F,u,E,e5,M⟩;simp only[go_sem,F,u,E,e5];refine aX M ⟨rfl,rfl⟩ ⟨rfl,trivial⟩ (by simp only[bR,Xaa,Xad,List.length_nil];omega) (fun j' ah=>?_);simp only[go_sem,F,u,E,e5,ew];refine⟨by decide,⟨z.tdiv 10,j',_,rfl,rfl,nV,ho.snoc O,?_,fun h=>ae (T h),fun h=>aa (af h),by omega,by omega,?_⟩,?_⟩
   . rw[ed];exact Z
   . rw[ed];exact ac
   . rw[LY,LY,ed];omega
 . have hz:z=0:=by simpa using I
   subst hz;simp only[go_sem,u,E];rw[show(0:Int).natAbs=0 from rfl,Nat.mul_zero,Nat.add_zero]at hv;have ht:=SC (decide (n<0)) o ho (by omega);rw[hv,CK]at ht;refine PC.useF [j] (.cons _ _ _ _ (.refl _) (.cons _ _ _ _ (.row _ _ _ (by simp only[Xaq,if_true];exact M) (ConvE.refl _)) .nil)) ht ?_;simp only[go_sem];exact .refl _
theorem I2(s:ByteArray)(h:s.size<=1048576):PC prog 128 [str s] (int (dP s).size):=by
 have F:=cF s;refine pcd Tryz.func128 ?_;unfold Tryz.f128;simp only[gdS];simp only[go_sem];refine⟨fun h=>⟨by omega,by have:=of_decide_eq_true h;omega⟩,?_⟩;rw[uA];have I:(dP s).size=s.size-stN s:=by rw[<-cF,sR,Xbd,F]
 have E:=Jc s;refine aA (fun u=>?_) (fun u=>?_)
 . have:stN s=1:=if_pos u
   simp only[go_sem];refine cI ?_;rw[aR (by omega)];omega
 . have:stN s=0:=if_neg (by rw[u];simp)
   simp only[go_sem];exact cI (by omega)
theorem akG{l:List UInt8}{k:Nat}{c:UInt8}(u:∀x∈l.take k,(x != dM)=true)(E:l[k]?=some c)(h:c=dM):l.any (· == dM)=true/\l.takeWhile (· != dM)=l.take k/\(l.dropWhile (· != dM)).drop 1=l.drop (k+1):=by
 obtain⟨I,e⟩:=List.getElem?_eq_some_iff.1 E;have F:l=l.take k++dM::l.drop (k+1):=by
   conv=>lhs;rw[<-Xcm k l]
   rw[Xbz I,e,h]
 refine⟨Xbk.2 ⟨c,Xae E,by simp[h]⟩,?_,?_⟩
 . conv=>lhs;rw[F]
   exact Hz u
 . conv=>lhs;rw[F]
   rw[IN u];rfl
theorem Lj(s:ByteArray)(h:s.size<=1048576):PC prog 125 [str s] (.tup [str (fD s),str (eZ s),boo (jJ s)]):=by
 have T:=cF s;refine pcd Tryz.func125 ?_;unfold Tryz.f125;simp only[gdS];simp only[go_sem];refine⟨fun ρ _=>∃k:Nat,k<=(bl s).length/\ρ 0=str s/\ρ 5=int k/\∀c∈(bl s).take k,(c != dM)=true,fun ρ _=>(bl s).length-aT (ρ 5),⟨0,Xab _,rfl,rfl,by simp⟩,?_⟩;rintro ρ H ⟨k,hk,h0,J,M⟩;simp only[go_sem,h0,J];refine aA (fun E=>?_) (fun F=>?_)
 . have E:k<(bl s).length:=by have:=ltB E;omega
   obtain⟨c,O⟩:=aN E;simp only[go_sem,h0,J,pD O];refine⟨⟨by omega,by omega⟩,?_⟩;rw[show(((c.toNat:Nat):Int) == 47)=(c == dM)from QL c dM];refine aA (fun I=>?_) (fun I=>?_)
   . have I:c=dM:=by simpa using I
     obtain⟨Z,t2,t3⟩:=akG M O I;have e1:s.extract 0 k=fD s:=jC (by rw[eQ,Xbj,<-t2];exact(iK _).symm);have u:jJ s=true:=Z;have e2:s.extract (k+1) s.size=eZ s:=jC (by
       rw[eQ,<-T,Xag,<-t3];unfold eZ;rw[if_pos u];exact(iK _).symm)
     simp only[go_sem];refine dJ (by rfl) (by kernel_rfl) ?_;simp only[go_sem,h0,J,aP (show k<=4611686018427387904 by omega),Xbc,e1,e2];rw[u];exact⟨⟨by omega,by omega⟩,⟨by omega,by omega⟩,.refl _⟩
   . have I:c≠dM:=by simpa using I
     simp only[go_sem,h0,J,aP (show k<=4611686018427387904 by omega)];exact⟨⟨k+1,E,rfl,iS O (by simpa using I) M⟩,by simp only[aE];omega⟩
 . have F:k=(bl s).length:=by rw[<-T]at F;exact geB hk F
   subst F;rw[Xag]at M;have u:jJ s=false:=AU M;simp only[go_sem,h0];rw[u,HI u,MS u,<-B7];exact .refl _
theorem Ry(n:Int)(h0: -9223372036854775808<=n)(h1:n<=9223372036854775807):PC prog 23 [int n] (str (zed n)):=by
 refine pcd Tryz.func23 ?_;unfold Tryz.f23;simp only[gdS];simp only[go_sem];refine PC.use (azT n h0 h1) ?_;simp only[go_sem];exact .refl _
theorem yO(s:ByteArray)(h:s.size<=1048576):PC prog 72 [str s] (boo (bQ s)):=by
 have hn:=CU s;have hd:=Hi s;have h1:(1:Nat)<=1048576:=by omega
 refine pcd Tryz.func72 ?_;unfold Tryz.f72;simp only[gdS];simp only[go_sem];refine PC.use (Lj s h) ?_;simp only[go_sem];refine PC.use (tU (fD s) (by omega)) ?_;simp only[go_sem];refine⟨_,fun _=>(xQ (eZ s) (by omega)).q rfl,?_⟩;simp only[go_sem];refine⟨_,fun _=>(I2 (fD s) (by omega)).q rfl,?_⟩;simp only[go_sem];refine⟨_,fun _=>(I2 (eZ s) (by omega)).q rfl,?_⟩;simp only[go_sem];refine aA (fun F=>?_) (fun F=>?_)
 . simp only[go_sem]
   refine cB ?_;by_cases u:dC (eZ s)=true
   . refine(EU ?_).symm
     rw[u]at F;simpa using F
   . unfold bQ
     rw[show dC (eZ s)=false by simpa using u];simp
 have u:dC (eZ s)=true:=by
   simp only[Xak,Xbl]at F;exact F.1.1.2
 have J:(!dV (fD s)||decide (((dP (fD s)).size:Int)>4096)||decide (((dP (eZ s)).size:Int)>4096))=false:=by
   rw[u]at F;simpa using F
 obtain⟨f1,Z,f3,f4⟩:=yD J u;simp only[go_sem];refine aA (fun I=>?_) (fun I=>?_)
 . simp only[go_sem]
   refine cB ?_;have h0:jJ s=false:=by simpa using I
   unfold bQ;rw[f1,h0];rfl
 have h0:jJ s=true:=by simpa using I
 simp only[go_sem,lK,Cp];refine aA (fun E=>?_) (fun E=>?_)
 . simp only[go_sem]
   refine cB ?_;unfold bQ;rw[h0];simp only[Xbt]at E;rcases E with(E|E)|E <;> simp[E]
 simp only[Xak]at E;obtain⟨⟨h5,T⟩,h4⟩:=E;have v0:dU (eZ s)≠0:=fun e=>kW.1 T (by rw[<-iB u,e])
 have v1:dU (eZ s)<cK:=(vX u).1 f4;have hE:iO (fD s) (fD s)=0:=by
   unfold iO;rw[Z];simp;omega
 have ha:=X3 (fD s) (by omega);rw[if_pos hE]at ha;have M:(eU (fD s)).natAbs<cK:=by
   have:=oK (eU (fD s));rw[rD Z]at this;exact this.1 f3
 have aa:=iB u;have O:=Xi (dec (eU (fD s)).natAbs) (eZ s) (dB M) (by omega);have e:xC (dec (eU (fD s)).natAbs) (eZ s)=(dec (Nat.gcd (eU (fD s)).natAbs (dU (eZ s))),0):=by
   unfold xC;rw[if_pos (Eo (kB _) u ((gI _).2 M) f4),bU,wK (Xcr (Nat.gcd_le_right _ (by omega)) v1)]
 rw[e]at O;simp only[go_sem];refine PC.use ha ?_;simp only[go_sem];refine PC.use O ?_;simp only[go_sem,Cp];refine cB ?_;unfold bQ;rw[f1,h0,T,h4,h5];simp only[beq_self_eq_true,Xaz,Xcg,Bool.not_false,Bool.false_or];rw[Xax,jQ,pB,Xaw]
theorem Mj(s:ByteArray)(h:s.size<=1048576):PC prog 80 [str s] (.tup (if bQ s=true then[str (fD s),str (eZ s),int 0]else[str emp,str emp,int 3])):=by
 by_cases u:bQ s=true
 . rw[if_pos u]
   refine pcd Tryz.func80 ?_;unfold Tryz.f80;simp only[gdS];simp only[go_sem];refine PC.use (yO s h) ?_;simp only[go_sem,u];refine aA (fun E=>by cases E) (fun _=>?_);simp only[go_sem];refine PC.use (Lj s h) ?_;simp only[go_sem];exact .refl _
 . rw[if_neg u]
   have u:bQ s=false:=by simpa using u
   refine pcd Tryz.func80 ?_;unfold Tryz.f80;simp only[gdS];simp only[go_sem];refine PC.use (yO s h) ?_;simp only[go_sem,u];refine aA (fun _=>?_) (fun E=>by cases E);simp only[go_sem];exact .refl _
theorem zO{α:Type}{l:List α}{k:Nat}{x:α}(h:l[k]?=some x):l.drop k=x::l.drop (k+1):=by
 obtain⟨u,e⟩:=List.getElem?_eq_some_iff.1 h;rw[Xbz u,e]
theorem WI(ns:List Int)(xs:List ByteArray)(hn:∀n∈ns,-9223372036854775808<=n/\n<=9223372036854775807)(hl:xs.length<=1048576)(hs:∀s∈xs,s.size<=1048576):
   PC prog 97 [.sl (ns.map bJ),.sl (xs.map Go.Aw.D.fA)] (.tup [str (jD ns xs).1,int (jD ns xs).2]):=by
 refine pcd Tryz.func97 ?_;unfold Tryz.f97;simp only[gdS];simp only[go_sem];refine aA (fun ad=>?_) (fun ac=>?_)
 . have ad:ns.length≠xs.length:=neN ad
   simp only[go_sem];rw[show jD ns xs=(emp,2)from if_pos ad];exact .refl _
 have ac:ns.length=xs.length:=eqN ac;have e0:jD ns xs=if xs.any (fun x=> !bQ x)=true then(emp,3)else oR (ns.zip xs) (dec 0):=if_neg (by simp[ac])
 rw[e0];simp only[go_sem,Xaa];refine⟨fun ρ H=>∃(k:Nat),k<=xs.length/\ρ 0=.sl (ns.map bJ)/\ρ 1=.sl (xs.map Go.Aw.D.fA)/\ρ 18=.sl (xs.map Go.Aw.D.fA)/\ρ 19=int xs.length/\ρ 20=int k/\∀s∈xs.take k,bQ s=true,fun ρ _=>xs.length-aT (ρ 20),
   ⟨0,Xab _,by simp only[go_sem],by simp only[go_sem],by simp only[go_sem],by simp only[go_sem,Xaa],by simp only[go_sem];rfl,by simp⟩,?_⟩
 rintro ρ H ⟨k,hk,h0,h1,ab,Z,aa,hz⟩;simp only[go_sem,h0,h1,ab,Z,aa];refine aA (fun u=>?_) (fun O=>?_)
 . have u:=ltB u
   obtain⟨s,E⟩:=aN u;have b1:=inB u;simp only[go_sem,h0,h1,ab,Z,aa,aF E,b1];refine PC.use (xY s (hs s (Xae E))) ?_;simp only[go_sem,h0,h1,ab,Z,aa];refine aA (fun T=>?_) (fun T=>?_)
   . simp only[go_sem]
     rw[if_pos (BP E T)];exact .refl _
   . simp only[go_sem,h0,h1,ab,Z,aa,aP (show k<=4611686018427387904 by omega)]
     exact⟨⟨k+1,u,rfl,iS E (by simpa using T) hz⟩,by simp only[aE];omega⟩
 have O:=geB hk O;subst O;rw[Xag]at hz;have hR:xs.any (fun s=> !bQ s)=false:=xT fun s hs=>by rw[hz s hs];rfl
 rw[hR];simp only[go_sem,h0,h1,Xaa];refine⟨fun ρ H=>∃(k:Nat) (t:ByteArray),k<=xs.length/\ρ 0=.sl (ns.map bJ)/\ρ 28=.sl (xs.map Go.Aw.D.fA)/\ρ 29=int xs.length/\ρ 8=str t/\ρ 30=int k/\t.size<=1048576/\oR (ns.zip xs) (dec 0)=oR ((ns.zip xs).drop k) t,fun ρ _=>xs.length-aT (ρ 30),
   ⟨0,dec 0,Xab _,by simp only[go_sem,h0],by simp only[go_sem],by simp only[go_sem,Xaa],by simp only[go_sem];rw[pI],by simp only[go_sem];rfl,by rw[<-pI];decide,rfl⟩,?_⟩
 clear h0 h1 ab Z aa;rintro ρ H ⟨k,t,hk,h0,I,J,h8,M,ht,ag⟩;rw[ag];have ak:(ns.zip xs).length=xs.length:=by rw[List.length_zip];omega
 simp only[go_sem,h0,I,J,h8,M];refine aA (fun u=>?_) (fun O=>?_)
 . have u:=ltB u
   obtain⟨s,E⟩:=aN u;obtain⟨n,ae⟩:=aN (l:=ns) (k:=k) (by omega);have b1:=inB u;have b2:=inB (show k<ns.length by omega);have ah:=hs s (Xae E);have af:=hn n (Xae ae);have ai:(ns.zip xs)[k]?=some (n,s):=by rw[List.getElem?_zip_eq_some];exact⟨ae,E⟩
   have aj:n.natAbs<cK:=Jm (k:=20) (by omega) (by decide);have al:=Go.Nu.cT aj;rw[zO ai,oR];simp only[go_sem,h0,I,J,h8,M,aF E,aF ae,b1,b2];refine PC.use (Ca n af.1 af.2) ?_;simp only[go_sem,h0,I,J,h8,M];refine PC.use (agV (zed n) s (by omega) ah) ?_;simp only[go_sem,h0,I,J,h8,M];refine aA (fun T=>?_) (fun T=>?_)
   . have T:(rW (zed n) s).2≠0:=by simpa using T
     simp only[go_sem];rw[if_pos T];exact .refl _
   have T:(rW (zed n) s).2=0:=by simpa using T
   have hm:=fB (Fx T);rw[if_neg (by simp[T])];generalize (rW (zed n) s).1=m at *;simp only[go_sem,h0,I,J,h8,M];refine PC.use (xD t m ht (by omega)) ?_;simp only[go_sem,h0,I,J,h8,M];refine aA (fun F=>?_) (fun F=>?_)
   . have F:(rO t m).2≠0:=by simpa using F
     simp only[go_sem];rw[if_pos F];exact .refl _
   have F:(rO t m).2=0:=by simpa using F
   have ha:=fB (AD F);rw[if_neg (by simp[F])];simp only[go_sem,h0,I,J,h8,M,aP (show k<=4611686018427387904 by omega)];exact⟨⟨k+1,_,u,rfl,rfl,by omega,rfl⟩,by simp only[aE];omega⟩
 . have O:=geB hk O
   subst O;rw[Xby (by omega)];simp only[go_sem,h8];exact .refl _
end Go.Proofs.YtohmomanmikphaaGreatDoor.Nu
end
