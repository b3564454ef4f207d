import Derived.Test.YthbiheckeoknlaaGreatDoorPp10
set_option linter.unusedSimpArgs false
set_option linter.unusedVariables false
set_option linter.defProp false
set_option maxRecDepth 100000
section
namespace Go.Proofs.YthbiheckeoknlaaGreatDoor.Sk
open Go.Aw Go.Aw.D Go.Proofs Ty
open Go.Proofs.YthbiheckeoknlaaGreatDoor
open Go.Proofs.YthbiheckeoknlaaGreatDoor.Sc
def Item.line(it:Item):ByteArray:=aG spB (it.word::it.words)
def Item.ln(it:Item):ByteArray:=it.line++nlB
def items(x:Instance):List Item:=x.net.places.map .place++(x.net.arcs.map .arc++(x.types.map .type++(x.orders.map .order++(x.apart.map .apart++x.before.map .before))))
theorem R7:Item.fin.ln=SQ:=by decide +kernel
theorem vY(x:Instance):mC x=gL ((items x++[Item.fin]).map Item.ln):=by unfold items mC zY Dc D8 Dw Dg Dr;simp only[Xal,oZ,List.map_map,Xak,Xao,vX,R7,bQ];rfl
def x0:Instance:=⟨⟨[],[]⟩,[],[],[],[]⟩
abbrev Srt(l:List Item):Prop:=l.Pairwise fun a b=>a.rank≤b.rank
end Go.Proofs.YthbiheckeoknlaaGreatDoor.Sk
end
section
namespace Go.Aw
open Go.RowKit
theorem PC.useNil{P:Program}{f:FuncId}{args args':List AV}{H:aC}{K:AV→aC→Prop}(hc:ConvL H args args')(hp:PC P f args' (.sl []))(hK:K (.sl []) H):cK P f args H K:=by
 intro S w vals hS ha
 let S0:Sg:={ S.froze H with fz:=fun k=>k<w.heap.size }
 have hle0:(S.froze H).le S0:=⟨fun _ h=>h,Nat.le_refl _,fun _ _=>rfl,fun _ _=>rfl⟩;have hS0:St S0 w bV:=⟨fun k hk=>by
  rcases hk with hk|⟨j,r,hj,hg⟩
  ·exact hS.fz_lt k (hS.ro_fz k hk)
  ·exact(hS.rows j r hj).block_lt hg,fun _ h=>h,fun k r hk=>by simp[bV]at hk,fun k r hk=>by simp[bV]at hk,fun k k' r r' hk=>by simp[bV]at hk,(hS.tabs.keep (S.le_froze H) (fI.refl S w)).keep hle0 (fI.refl _ w)⟩
 refine(hp S0 w vals hS0 (fun _ h=>h) (dN hle0 (fI.refl _ w) _ _ (hc.rep hS ha))).mono fun e w' ⟨v',x,H',S',he,hx,hS',hv',hg,hn⟩=>?_
 subst hx;refine⟨v',.sl [],H,S,he,hK,hS.after hg.size hg.same,?_,hS.grow hg.os hg.tape hg.output hg.size hg.same,dO.refl _ _⟩;simp only[rep]at hv' ⊢;obtain⟨ad,n,c,h1,h2,h3,h4,_⟩:=hv';exact⟨ad,n,c,h1,h2,h3,h4,.inl trivial⟩
end Go.Aw
namespace Go.Proofs.YthbiheckeoknlaaGreatDoor.Sk
open Go.Aw Go.Aw.D Go.Proofs Ty
open Go.Proofs.YthbiheckeoknlaaGreatDoor
open Go.Proofs.YthbiheckeoknlaaGreatDoor.Nw (ltB geB cB rZ)
open Go.Proofs.YthbiheckeoknlaaGreatDoor.Sc
open Go.RowKit (Below)
theorem Jz{w:World}(k:Nat):Below w.heap.size w (w.drewN k):=by
 refine⟨rfl,rfl,rfl,?_,fun i hi=>?_⟩
 ·simp
 ·simp only[World.heap_drewN]
theorem LL(s:ByteArray)(a b:List UInt8)(ok:Bool)(hs:s.size≤1048576)(h:Lib.cut s.data.toList [10]=(a,b,ok)):PC Tryz.prog 14 [str s,str ⟨#[10]⟩] (.tup [str ⟨a.toArray⟩,str ⟨b.toArray⟩,boo ok]):=by
 refine PC.lib (a:=[.string s,.string ⟨#[10]⟩]) (v:=.tuple #[.string ⟨a.toArray⟩,.string ⟨b.toArray⟩,.bool ok]) (fun S w=>⟨_,rfl,⟨_,_,rfl,rfl,⟨_,_,rfl,rfl,⟨_,_,rfl,rfl,rfl⟩⟩⟩⟩) fun w ht=>?_
 obtain⟨m,hm⟩:=Jr ht;refine(Tryz.strings_Cut s ⟨#[10]⟩ m w (by omega) hm).mono fun e w' ⟨he,k,hw⟩=>?_
 rw[show(⟨#[10]⟩:ByteArray).data.toList=[10]from rfl,h]at he;exact⟨he,hw▸Jz k⟩
theorem mY{H:aC}{b:Nat}{n:Nat→Nat}{x:Instance}(I:IH H b n x):Conv H (.agg [.os (n 0),.os (n 1),.os (n 2),.os (n 3),.os (n 4),.os (n 5)]) (.agg (aO x)):=
 .agg _ _ (.cons _ _ _ _ (.row _ _ _ (I.d 0 (by decide)) (ConvE.refl _)) (.cons _ _ _ _ (.row _ _ _ (I.d 1 (by decide)) (ConvE.refl _)) (.cons _ _ _ _ (.row _ _ _ (I.d 2 (by decide)) (ConvE.refl _)) (.cons _ _ _ _ (.row _ _ _ (I.d 3 (by decide)) (ConvE.refl _)) (.cons _ _ _ _ (.row _ _ _ (I.d 4 (by decide)) (ConvE.refl _)) (.cons _ _ _ _ (.row _ _ _ (I.d 5 (by decide)) (ConvE.refl _)) .nil))))))
end Go.Proofs.YthbiheckeoknlaaGreatDoor.Sk
end
namespace Go.Proofs.YthbiheckeoknlaaGreatDoor
open Go.Aw Go.Aw.D Go.Proofs Ty
namespace Sp
open Go.Proofs.YthbiheckeoknlaaGreatDoor
open Go.Proofs.YthbiheckeoknlaaGreatDoor.Nw (ltB geB cB rZ)
open Go.Proofs.YthbiheckeoknlaaGreatDoor.Sk
open Go.Proofs.YthbiheckeoknlaaGreatDoor.Sc
theorem dK{a b:Int}(h:aH a=aH b):a=b:=pP ((fH a).symm.trans ((congrArg bs h).trans (fH b)))
theorem CQ{a b:List Int}(h:iB a=iB b):a=b:=by
 by_cases ha:a=[] <;> by_cases hb:b=[]
 ·rw[ha,hb]
 ·subst ha;have:=EE (s:=⟨#[44]⟩) hb;rw[←fA hb,←h]at this;exact absurd this (by decide +kernel)
 ·subst hb;have:=EE (s:=⟨#[44]⟩) ha;rw[←fA ha,h]at this;exact absurd this (by decide +kernel)
 ·rw[fA ha,fA hb]at h;exact nJ (by decide) ha hb h
theorem JU{a b:Point}(h:fQ a=fQ b):a=b:=by rw[fR,fR]at h;have:=nJ (by decide) (by simp) (by simp) h;obtain⟨a0,a1⟩:=a;obtain⟨b0,b1⟩:=b;simpa using this
theorem zU{a b:List Point}(h:eP a=eP b):a=b:=by
 by_cases ha:a=[] <;> by_cases hb:b=[]
 ·rw[ha,hb]
 ·subst ha;have:=Hg hb;rw[←h]at this;exact absurd this (by decide +kernel)
 ·subst hb;have:=Hg ha;rw[h]at this;exact absurd this (by decide +kernel)
 ·rw[eX ha,eX hb]at h;exact wF (fun _ _=>JU) (jF (by simpa using ha) (by simpa using hb) (tJ a) (tJ b) h)
theorem CI{a b:Stop}(h:eQ a=eQ b):a=b:=by
 have ne:∀{u v:Stop},eK u=true→¬eK v=true→eQ u=eQ v→False:=fun {u v} hu hv e=>by rw[show eQ u=⟨#[46]⟩from if_pos hu,show eQ v=_ from if_neg hv]at e;have:=EE (s:=⟨#[58]⟩) (l:=[v.place,v.start,v.close,v.service]) (by simp);rw[←e]at this;exact absurd this (by decide +kernel)
 by_cases ha:eK a=true <;> by_cases hb:eK b=true
 ·rw[zP ha,zP hb]
 ·exact(ne ha hb h).elim
 ·exact(ne hb ha h.symm).elim
 ·rw[show eQ a=_ from if_neg ha,show eQ b=_ from if_neg hb]at h;have:=nJ (by decide) (by simp) (by simp) h;obtain⟨a0,a1,a2,a3⟩:=a;obtain⟨b0,b1,b2,b3⟩:=b;simpa using this
theorem QJ{a b:Bool}(h:onS a=onS b):a=b:=by cases a <;> cases b <;> first|rfl|exact absurd h (by decide +kernel)
theorem Pp{a b:Sk.Item}(h:a.word::a.words=b.word::b.words):a=b:=by
 have h1:=(List.cons.inj h).1;have h2:=(List.cons.inj h).2;have hr:=lL a.rank_lt (show W a.rank=b.word from h1);cases a <;> cases b <;> first|(simp[Sk.Item.rank]at hr;done)|skip
 all_goals simp only[Sk.Item.words,List.cons.injEq,and_true]at h2
 ·rw[h2]
 ·rename_i a b;obtain⟨q0,q1,q2,q3,q4,q5⟩:=h2;obtain⟨a0,a1,a2,a3,a4,a5⟩:=a;obtain⟨b0,b1,b2,b3,b4,b5⟩:=b;simp only at q0 q1 q2 q3 q4 q5;rw[dK q0,dK q1,dK q2,dK q3,zU q4,zU q5]
 ·rename_i a b;obtain⟨q0,q1,q2,q3,q4,q5,q6,q7,q8,q9,q10,q11,q12,q13⟩:=h2;obtain⟨a0,a1,a2,a3,a4,a5,a6,a7,a8,a9,a10,a11,a12,a13⟩:=a;obtain⟨b0,b1,b2,b3,b4,b5,b6,b7,b8,b9,b10,b11,b12,b13⟩:=b;simp only at q0 q1 q2 q3 q4 q5 q6 q7 q8 q9 q10 q11 q12 q13;rw[q0,dK q1,dK q2,dK q3,CQ q4,dK q5,dK q6,dK q7,dK q8,dK q9,dK q10,dK q11,dK q12,dK q13]
 ·rename_i a b;obtain⟨q0,q1,q2,q3,q4,q5,q6,q7,q8,q9⟩:=h2;obtain⟨a0,a1,a2,a3,a4,a5,a6,a7,a8,a9⟩:=a;obtain⟨b0,b1,b2,b3,b4,b5,b6,b7,b8,b9⟩:=b;simp only at q0 q1 q2 q3 q4 q5 q6 q7 q8 q9;rw[q0,CQ q1,CI q2,CI q3,dK q4,dK q5,dK q6,dK q7,dK q8,QJ q9]
 ·rename_i a b;obtain⟨a0,a1⟩:=a;obtain⟨b0,b1⟩:=b;obtain⟨q0,q1⟩:=h2;simp only at q0 q1;rw[dK q0,dK q1]
 ·rename_i a b;obtain⟨a0,a1⟩:=a;obtain⟨b0,b1⟩:=b;obtain⟨q0,q1⟩:=h2;simp only at q0 q1;rw[dK q0,dK q1]
 ·rfl
theorem On{a b:Sk.Item}(ha:qD a)(hb:qD b)(h:a.line=b.line):a=b:=
 Pp (Gb ⟨by simp,mF ha,rfl⟩ ⟨by simp,mF hb,h⟩)
open Classical in
noncomputable def itF (s:ByteArray):Option Sk.Item:=if h:∃it,qD it∧s=Sk.Item.line it then some h.choose else none
theorem PD{it:Sk.Item}(h:qD it):itF it.line=some it:=by have hx:∃i,qD i∧it.line=Sk.Item.line i:=⟨it,h,rfl⟩;unfold itF;rw[dif_pos hx];exact congrArg some (On h hx.choose_spec.1 hx.choose_spec.2).symm
theorem Bw{s:ByteArray}(h:∀it,qD it→s≠Sk.Item.line it):itF s=none:=by unfold itF;rw[dif_neg];rintro⟨it,h1,h2⟩;exact h it h1 h2
theorem Gf{s:ByteArray}{it:Sk.Item}(h:itF s=some it):qD it∧s=it.line:=by
 unfold itF at h;split at h
 ·rename_i hx;injection h with h;subst h;exact hx.choose_spec
 ·cases h
noncomputable def kS:List ByteArray→Nat→Nat→Instance→Nat ⊕ Instance
 | [],_,n,_=>.inl n
 | l::r,m,n,x=>if r=[]then .inl n else match itF l with
   | none=>.inl n
   | some it=>if it.rank+1<m then .inl n else if it.rank=6 then(if r=[⟨#[]⟩]then .inr x else .inl (n+1))else kS r (it.rank+1) (n+1) (eH x it)
structure GI(k:Nat)(x:Instance):Prop where
 cnt:x.net.places.length+x.net.arcs.length+x.types.length+x.orders.length+x.apart.length+x.before.length≤k
 place:∀s∈x.net.places,s.size≤1048576∧aW s=true
 arc:∀a∈x.net.arcs,OkArc a
 type:∀a∈x.types,OkType a∧aW a.name=true
 order:∀a∈x.orders,OkOrder a∧aW a.name=true
 apart:∀a∈x.apart,kZ a
 before:∀a∈x.before,kZ a
theorem GI.nil:GI 0 x0:=⟨by simp[x0],by simp[x0],by simp[x0],by simp[x0],by simp[x0],by simp[x0],by simp[x0]⟩
theorem oY{α:Type}{l:List α}{a b:α}{p:α→Prop}(h:∀x∈l,p x)(ha:p a)(hb:b∈l++[a]):p b:=by
 rcases Xap.1 hb with h1|h1
 ·exact h b h1
 ·rw[Xbb.1 h1];exact ha
theorem GI.step{k:Nat}{x:Instance}{it:Sk.Item}(g:GI k x)(h:qD it)(hs:it.line.size≤1048576):GI (k+1) (eH x it):=by
 have hc:=g.cnt;cases it with
 | place s=>exact⟨by simp only[eH,Xac,List.length_singleton];omega,fun v hv=>oY (p:=fun v:ByteArray=>v.size≤1048576∧aW v=true) g.place ⟨Xam (bW spB (w:=s) (l:=(Sk.Item.place s).word::(Sk.Item.place s).words) (by simp[Sk.Item.words])) hs,h⟩ hv,g.arc,g.type,g.order,g.apart,g.before⟩
 | arc a=>exact⟨by simp only[eH,Xac,List.length_singleton];omega,g.place,fun v hv=>oY g.arc h hv,g.type,g.order,g.apart,g.before⟩
 | type a=>exact⟨by simp only[eH,Xac,List.length_singleton];omega,g.place,g.arc,fun v hv=>oY (p:=fun v=>OkType v∧aW v.name=true) g.type h hv,g.order,g.apart,g.before⟩
 | order a=>exact⟨by simp only[eH,Xac,List.length_singleton];omega,g.place,g.arc,g.type,fun v hv=>oY (p:=fun v=>OkOrder v∧aW v.name=true) g.order h hv,g.apart,g.before⟩
 | apart a=>exact⟨by simp only[eH,Xac,List.length_singleton];omega,g.place,g.arc,g.type,g.order,fun v hv=>oY g.apart h hv,g.before⟩
 | before a=>exact⟨by simp only[eH,Xac,List.length_singleton];omega,g.place,g.arc,g.type,g.order,g.apart,fun v hv=>oY g.before h hv⟩
 | fin=>exact⟨by simp only[eH];omega,g.place,g.arc,g.type,g.order,g.apart,g.before⟩
theorem GI.small{k:Nat}{x:Instance}(g:GI k x)(hk:k≤100000):SmallX x:=by have:=g.cnt;exact⟨by omega,by omega,by omega,by omega,by omega,by omega⟩
theorem GI.inB{k:Nat}{x:Instance}(g:GI k x)(hk:k≤100000):InB x:=by have:=g.cnt;exact⟨by omega,fun s h=>(g.place s h).1,by omega,fun a h=>⟨(g.arc a h).tl,(g.arc a h).sl⟩,by omega,fun a h=>⟨(g.type a h).1.name,(g.type a h).1.cl⟩,by omega,fun a h=>⟨(g.order a h).1.name,(g.order a h).1.ll⟩,by omega,by omega⟩
noncomputable def xN:Nat ⊕ Instance→AV
 | .inl n=>.tup [.agg (aO x0),int n,int 3]
 | .inr x=>match iI x with
   | []=>.tup [.agg (aO x),int 0,int 0]
   | f::_=>.tup [.agg (aO x0),int 0,int f.err]
theorem IP(t:ByteArray)(h:(10:UInt8)∉t.data.toList):Lib.cut t.data.toList [10]=(bs t,[],false):=by unfold Lib.cut;rw[Lib.index_one,E1 _ h,if_neg (by decide)]
end Sp
namespace Sp
open Go.Proofs.Tryz
open Go.Proofs.YthbiheckeoknlaaGreatDoor
open Go.Proofs.YthbiheckeoknlaaGreatDoor.Nw (ltB geB cB rZ)
open Go.Proofs.YthbiheckeoknlaaGreatDoor.Sk
open Go.Proofs.YthbiheckeoknlaaGreatDoor.Sc
theorem O9(ps:List ByteArray)(hps:ps≠[])(hno:∀p∈ps,(10:UInt8)∉p.data.toList)(hs:(aG nlB ps).size≤65536):PC prog 13 [str (aG nlB ps)] (xN (kS ps 0 1 x0)):=by
 have hpl:ps.length≤65537:=Xam (fX 10 ps) (show(aG nlB ps).size+1≤65537 by omega);refine pcb (fun t=>t == 5) func13 rfl rfl ?_;simp only[go_sem];refine aL fun r Gr hr (R:Gr r=some ⟨31,6,[aO x0]⟩) N=>?_
 clear N hr;simp only[go_sem,R];refine aA (fun hb=>absurd (of_decide_eq_true hb) (by omega)) (fun _=>?_);simp only[go_sem,R];refine aL fun k0 G0 _ (D0:G0 k0=some (cA [])) N=>?_
 obtain⟨q0,R⟩:=N R;clear N;refine aL fun k1 G1 _ (D1:G1 k1=some (Sk.eD [])) N=>?_
 obtain⟨q1,R⟩:=N R;obtain⟨p01,D0⟩:=N D0;clear N;refine aL fun k2 G2 _ (D2:G2 k2=some (Sk.gE [])) N=>?_
 obtain⟨q2,R⟩:=N R;obtain⟨p02,D0⟩:=N D0;obtain⟨p12,D1⟩:=N D1;clear N;refine aL fun k3 G3 _ (D3:G3 k3=some (Sk.gF [])) N=>?_
 obtain⟨q3,R⟩:=N R;obtain⟨p03,D0⟩:=N D0;obtain⟨p13,D1⟩:=N D1;obtain⟨p23,D2⟩:=N D2;clear N;refine aL fun k4 G4 _ (D4:G4 k4=some (Sk.eN [])) N=>?_
 obtain⟨q4,R⟩:=N R;obtain⟨p04,D0⟩:=N D0;obtain⟨p14,D1⟩:=N D1;obtain⟨p24,D2⟩:=N D2;obtain⟨p34,D3⟩:=N D3;clear N;refine aL fun k5 G5 _ (D5:G5 k5=some (Sk.eN [])) N=>?_
 obtain⟨q5,R⟩:=N R;obtain⟨p05,D0⟩:=N D0;obtain⟨p15,D1⟩:=N D1;obtain⟨p25,D2⟩:=N D2;obtain⟨p35,D3⟩:=N D3;obtain⟨p45,D4⟩:=N D4;clear N;refine aL fun b G _ (B:G b=some (nL fun i=>[k0,k1,k2,k3,k4,k5].getD i 0)) N=>?_
 obtain⟨qb,R⟩:=N R;obtain⟨b0,D0⟩:=N D0;obtain⟨b1,D1⟩:=N D1;obtain⟨b2,D2⟩:=N D2;obtain⟨b3,D3⟩:=N D3;obtain⟨b4,D4⟩:=N D4;obtain⟨b5,D5⟩:=N D5;clear N;have six:∀i:Nat,i<6→i=0∨i=1∨i=2∨i=3∨i=4∨i=5:=fun i hi=>by omega
 have I:IH G b (fun i=>[k0,k1,k2,k3,k4,k5].getD i 0) x0:=by
  refine⟨B,fun i hi=>?_,fun i hi=>?_,fun i hi j hj hne=>?_⟩
  ·rcases six i hi with rfl|rfl|rfl|rfl|rfl|rfl <;> assumption
  ·rcases six i hi with rfl|rfl|rfl|rfl|rfl|rfl <;> assumption
  ·rcases six i hi with rfl|rfl|rfl|rfl|rfl|rfl <;> rcases six j hj with rfl|rfl|rfl|rfl|rfl|rfl <;> first|exact absurd rfl hne|assumption|exact Ne.symm (by assumption)
 have off:Off b (fun i=>[k0,k1,k2,k3,k4,k5].getD i 0) r:=⟨qb,fun i hi=>by rcases six i hi with rfl|rfl|rfl|rfl|rfl|rfl <;> assumption⟩;generalize (fun i=>[k0,k1,k2,k3,k4,k5].getD i 0)=n at *;simp only[go_sem,R];refine⟨fun ρ H'=>∃(qs:List ByteArray) (y:Instance) (n:Nat→Nat) (m k c:Nat),qs≠[]∧ρ 0=str (aG nlB qs)∧ρ 2=.op r 0 0∧ρ 5=.op b 0 0∧ρ 6=int m∧ρ 7=int k∧IH H' b n y∧H' r=some ⟨31,6,[aO x0]⟩∧Off b n r∧kS qs m k y=kS ps 0 1 x0∧(∀p∈qs,(10:UInt8)∉p.data.toList)∧(aG nlB qs).size≤65536∧GI c y∧c+qs.length≤65537∧k+qs.length≤65538∧m≤7,fun ρ _=>Sk.sz0 (ρ 0),⟨ps,x0,n,0,1,0,hps,rfl,rfl,rfl,rfl,rfl,I,R,off,rfl,hno,hs,GI.nil,by omega,by omega,by omega⟩,?_⟩;clear I R off B D0 D1 D2 D3 D4 D5 hs;rintro ρ H' ⟨qs,y,n,m,k,c,hq,e0,e2,e5,e6,e7,I,R,off,hf,hno,hs,g,hck,hkk,hm⟩;simp only[go_sem,e0,e2,e5,e6,e7];cases qs with
 | nil=>exact absurd rfl hq
 | cons t qr=>
 have ht:=hno t (by simp);by_cases hqr:qr=[]
 ·subst hqr;have hf:kS ps 0 1 x0=.inl k:=by rw[←hf,kS,if_pos rfl]
  rw[hf];rw[show aG nlB [t]=t by rw[aZ,cY,dP]]at hs ⊢;refine bB (LL t _ _ _ (by omega) (IP t ht)) ?_;simp only[go_sem,e0,e2,e5,e6,e7];refine aA (fun _=>?_) (fun h=>absurd h (by decide));simp only[go_sem,e0,e2,e5,e6,e7];refine bF R ⟨Nat.zero_lt_one,rfl,Nat.le_of_ble_eq_true rfl⟩ fun G3 R3 F3=>?_
  simp only[go_sem,e2,e7,R3];exact .refl _
 obtain⟨l2,r2,rfl⟩:∃l2 r2,qr=l2::r2:=by cases qr with|nil=>exact absurd rfl hqr|cons a b=>exact⟨a,b,rfl⟩
 have hsz:=lQ nlB t l2 r2;have hnl:nlB.size=1:=rfl;have hcut:Lib.cut (aG nlB (t::l2::r2)).data.toList [10]=(bs t,bs (aG nlB (l2::r2)),true):=by rw[show(aG nlB (t::l2::r2)).data.toList=bs t++10::bs (aG nlB (l2::r2))by rw[lJ];show bs _=_;rw[dJ,dJ];rfl];exact LN _ _ ht
 refine bB (LL _ _ _ _ (by omega) hcut) ?_;rw[kS,if_neg hqr]at hf;simp only[go_sem,e0,e2,e5,e6,e7];refine aA (fun h=>absurd h (by decide)) (fun _=>?_);simp only[go_sem,e0,e2,e5,e6,e7];refine Rh t I (by omega) (g.small (by omega)) (fun it H2 n2 oi hl I2 K2=>?_) (fun no H2 K2=>?_);rotate_left
 ·have R2:=K2 r _ off R;rw[Bw no]at hf;rw[←hf];simp only[go_sem,e0,e2,e5,e6,e7];refine aA (fun _=>?_) (fun h=>absurd h (by simp));simp only[go_sem,e0,e2,e5,e6,e7];refine bF R2 ⟨Nat.zero_lt_one,rfl,Nat.le_of_ble_eq_true rfl⟩ fun G3 R3 F3=>?_
  simp only[go_sem,e2,e7,R3];exact .refl _
 obtain⟨R2,off2⟩:=K2 r _ off R;have hrk:=it.rank_lt;rw[show t=it.line from hl,PD oi]at hf;simp only at hf;simp only[go_sem,e0,e2,e5,e6,e7];refine aA (fun hb=>?_) (fun hb=>?_)
 ·have : it.rank + 1 < m := by
   rcases Bool.or_eq_true_iff.1 hb with h|h
   ·have:=eq_of_beq h;omega
   ·have:=of_decide_eq_true h;omega
  rw[if_pos this]at hf;rw[←hf];simp only[go_sem,e0,e2,e5,e6,e7];refine bF R2 ⟨Nat.zero_lt_one,rfl,Nat.le_of_ble_eq_true rfl⟩ fun G3 R3 F3=>?_
  simp only[go_sem,e2,e7,R3];exact .refl _
 rw[Xaq]at hb;have hm2:¬it.rank+1<m:=by have:=of_decide_eq_false hb.2;omega
 rw[if_neg hm2]at hf;simp only[go_sem,e0,e2,e5,e6,e7];refine bB (ON 6 (by decide)) ?_;simp only[go_sem,e0,e2,e5,e6,e7];have hkw:=cH k;have hg:=g.step oi (by rw[←show t=it.line from hl];omega);refine aA (fun hr=>?_) (fun hr=>?_)
 ·have hr : it.rank = 6 := by have:=eq_of_beq hr;omega
  rw[if_pos hr]at hf;simp only[go_sem,e0,e2,e5,e6,e7];refine aA (fun hn=>?_) (fun hn=>?_)
  ·have : ¬ l2 :: r2 = [⟨#[]⟩] := fun e => by rw[e]at hn;exact absurd hn (by decide +kernel)
   rw[if_neg this]at hf;rw[←hf];simp only[go_sem,e0,e2,e5,e6,e7,hkw];refine bF R2 ⟨Nat.zero_lt_one,rfl,Nat.le_of_ble_eq_true rfl⟩ fun G3 R3 F3=>?_
   simp only[go_sem,e2,e7,R3];exact .refl _
  have h0:aG nlB (l2::r2)=⟨#[]⟩:=gI (by simpa using hn);have hone:l2::r2=[⟨#[]⟩]:=by
   cases r2 with
   | nil=>rw[←h0,aZ,cY,dP]
   | cons a b=>have:=congrArg ByteArray.size h0;rw[lQ]at this;have h0':(⟨#[]⟩:ByteArray).size=0:=rfl;omega
  rw[if_pos hone]at hf;have hy:eH y it=y:=by cases it <;> first|(simp[Sk.Item.rank]at hr;done)|rfl
  rw[hy]at I2;rw[←hf];simp only[go_sem,e0,e2,e5,e6,e7,I2.row];have hic:=rZ y (g.inB (by omega));cases hc:iI y with
  | nil=>
   rw[hc]at hic;have hA:xN (.inr y)=.tup [.agg (aO y),int 0,int 0]:=by simp only[xN,hc]
   rw[hA];refine PC.useNil (.cons _ _ _ _ (mY I2) .nil) hic ?_;simp only[go_sem,I2.row];refine aA (fun hb=>absurd hb (by decide)) (fun _=>?_);simp only[go_sem,e2,e5,I2.row];refine bF R2 ⟨Nat.zero_lt_one,rfl,Nat.le_of_ble_eq_true rfl⟩ fun G3 R3 F3=>?_
   simp only[go_sem,e2,R3];exact .tup _ _ (.cons _ _ _ _ (mY (I2.fr F3 off2)) (.cons _ _ _ _ (.refl _) (.cons _ _ _ _ (.refl _) .nil)))
  | cons f fs=>
   rw[hc]at hic;have hA:xN (.inr y)=.tup [.agg (aO x0),int 0,int f.err]:=by simp only[xN,hc]
   rw[hA];refine PC.useF [b,n2 0,n2 1,n2 2,n2 3,n2 4,n2 5] ?_ hic ?_
   ·have I3 : IH (fun k => if k ∈ [b, n2 0, n2 1, n2 2, n2 3, n2 4, n2 5] then H2 k else none) b n2 y := ⟨by simp [I2.row], fun i hi => by rcases six i hi with rfl|rfl|rfl|rfl|rfl|rfl <;> simp[I2.d],I2.nb,I2.nn⟩;exact .cons _ _ _ _ (mY I3) .nil
   have hrl:r∉[b,n2 0,n2 1,n2 2,n2 3,n2 4,n2 5]:=fun h=>by
    simp only[Xaf,List.not_mem_nil,or_false]at h;rcases h with h|h|h|h|h|h|h
    ·exact off2.1 h
    all_goals exact off2.2 _ (by decide) h
   have R4:(fun k=>if k∈[b,n2 0,n2 1,n2 2,n2 3,n2 4,n2 5]then none else H2 k) r=some ⟨31,6,[aO x0]⟩:=(if_neg hrl).trans R2;generalize (fun k=>if k∈[b,n2 0,n2 1,n2 2,n2 3,n2 4,n2 5]then none else H2 k)=H4 at R4;simp only[go_sem,e2,e5];refine aA (fun _=>?_) (fun hb=>absurd hb (by simp));simp only[go_sem,e2,e5];refine bX [(0,true),(1,true),(2,true),(3,true),(4,true),(5,false),(6,false),(7,false)] (by kernel_rfl) ?_;simp only[go_sem,e2,e5];refine⟨⟨by omega,by omega⟩,?_⟩;refine bF R4 ⟨Nat.zero_lt_one,rfl,Nat.le_of_ble_eq_true rfl⟩ fun G3 R3 F3=>?_
   simp only[go_sem,e2,R3];exact .refl _
 ·have hr : ¬ it.rank = 6 := by intro e;rw[e]at hr;exact absurd hr (by decide)
  rw[if_neg hr]at hf;simp only[go_sem,e0,e2,e5,e6,e7,hkw];refine⟨⟨l2::r2,eH y it,n2,it.rank+1,k+1,c+1,by simp,rfl,rfl,rfl,I2,R2,off2,hf,fun p hp=>hno p (by simp[hp]),by omega,hg,?_,?_,by omega⟩,?_⟩
  ·simp only[Xaa]at hck ⊢;omega
  ·simp only[Xaa]at hkk ⊢;omega
  ·show(aG nlB (l2::r2)).size<(aG nlB (t::l2::r2)).size;omega
end Sp
namespace Sk
open Go.Proofs.Tryz
open Go.Proofs.YthbiheckeoknlaaGreatDoor
open Go.Proofs.YthbiheckeoknlaaGreatDoor.Nw (ltB geB cB)
open Go.Proofs.YthbiheckeoknlaaGreatDoor.Sc hiding aW
theorem yO{l:List Int}(hl:l.length≤1048576)(h:∀n∈l,bH n):PC prog 138 [.sl ((l.map aH).map D.bE)] (.tup [.sl (l.map D.aY),boo true]):=by
 refine pcb (fun t=>t == 4) func138 rfl rfl ?_;simp only[go_sem];refine aL fun i HGi hi0 (Ri:HGi i=some (gA [])) N=>?_
 clear N hi0;simp only[go_sem,Ri];refine⟨fun ρ H=>∃(k:Nat) (i:Nat),k≤l.length∧ρ 9=.sl ((l.map aH).map D.bE)∧ρ 10=int (l.length:Nat)∧ρ 11=int k∧ρ 4=.os i∧H i=some (gA (l.take k)),fun ρ _=>l.length-bO (ρ 11),⟨0,i,Xad _,by simp only[go_sem],by simp only[go_sem,Xab],(by simp only[go_sem];rfl),by simp only[go_sem],Ri⟩,?_⟩;rintro ρ H ⟨k,i,hk,e9,e10,e11,e4,Ri⟩;simp only[go_sem,e9,e10,e11,e4];refine aA (fun hlt=>?_) (fun hge=>?_)
 ·have hlt:=ltB hlt;obtain⟨n,hn⟩:=cG hlt;have hwr:=cH k;have hst:(l.take (k+1)).map D.aY=(l.take k).map D.aY++[D.aY n]:=by rw[fL hn];simp
  have hg:(l.map aH)[k]?=some (aH n):=by simp[hn]
  have b1:=inB (show k<(l.map aH).length by rw[Xab];exact hlt);simp only[go_sem,e9,e10,e11,e4,aM hg,b1];refine bB (wA n (h n (aQ hn))) ?_;simp only[go_sem,e9,e10,e11,e4];refine aA (fun h=>absurd h (by decide)) (fun _=>?_);simp only[go_sem,e9,e10,e11,e4];refine aP Ri ⟨rfl,rfl⟩ (by simp only[go_sem]) (by simp only[Xab,Xaa,List.length_nil,Xas];omega) fun j' hj'=>?_
  have g1:bG (bG H i none) j' (some ⟨3,1,(l.take k).map D.aY++[[int n]]⟩) j'=some (gA (l.take (k+1))):=by rw[aD,gA,hst];rfl
  simp only[go_sem,e9,e10,e11,e4,hwr];exact⟨⟨k+1,j',hlt,rfl,rfl,g1⟩,by simp only[aE];omega⟩
 ·have hge:=geB hk hge;subst hge;rw[Xaj (Xae _)]at Ri;simp only[go_sem,e9,e10,e11,e4];exact .tup _ _ (.cons _ _ _ _ (.row _ _ _ Ri (ConvE.refl _)) (.cons _ _ _ _ (.refl _) .nil))
theorem zM(o:Order)(h:OkOrder o)(h3:o.load.length≤3)(hoff:o.off=false):PC prog 137 [.sl ((o.name::(dU o).map aH).map D.bE)] (.tup [.agg (aB o),boo true]):=by
 have hr:=yO (l:=dU o) (by have:=(iN h h3).2;omega) (iN h h3).1;obtain⟨name,load,pick,drop,skills,penalty,split,last,now,off⟩:=o;simp only at hoff h3;subst hoff;refine pcd func137 rfl rfl ?_;simp only[go_sem];refine aL fun p G hp (P:G p=some ⟨64,16,[aB ⟨⟨#[]⟩,[],⟨0,0,0,0⟩,⟨0,0,0,0⟩,0,0,0,0,0,false⟩]⟩) N=>?_
 clear N hp
 match load,h3 with
 | [],_=>
  have e:dU ⟨name,[],pick,drop,skills,penalty,split,last,now,false⟩=[0,pick.place,pick.start,pick.close,pick.service,drop.place,drop.start,drop.close,drop.service,skills,penalty,split,last,now]:=rfl;rw[e]at hr;rw[e];simp only[go_sem,P];refine aA (fun hb=>absurd hb (by decide)) (fun _=>?_);simp only[go_sem,P];refine⟨⟨by omega,by omega⟩,PC.use hr ?_⟩;simp only[go_sem,P];refine⟨fun _=>⟨by omega,by omega⟩,fun _=>⟨by omega,by omega⟩,fun _=>⟨by omega,by omega⟩,aA (fun hb=>absurd hb (by decide +kernel)) (fun _=>?_)⟩;simp only[go_sem,P];refine⟨⟨by omega,by omega⟩,?_⟩;refine aL fun q G2 hq (Q:G2 q=some ⟨64,16,[iG (aB ⟨name,[],pick,drop,skills,penalty,split,last,now,false⟩) (aB ⟨⟨#[]⟩,[],⟨0,0,0,0⟩,⟨0,0,0,0⟩,0,0,0,0,0,false⟩) 0]⟩) N=>?_
  obtain⟨np,P⟩:=N P;clear N hq;simp only[go_sem,P,Q];refine bF Q ⟨Nat.zero_lt_one,rfl,Nat.le_of_ble_eq_true rfl⟩ fun G Q1 F=>?_
  replace P:=F _ _ np P;replace Q:G q=some ⟨64,16,[iG (aB ⟨name,[],pick,drop,skills,penalty,split,last,now,false⟩) (aB ⟨⟨#[]⟩,[],⟨0,0,0,0⟩,⟨0,0,0,0⟩,0,0,0,0,0,false⟩) 1]⟩:=Q1;clear Q1 F;simp only[go_sem,P,Q];refine⟨⟨by omega,by omega⟩,?_⟩;have hw:IntKind.i64.wrap (1+0)=1:=by decide +kernel
  refine aA (fun hb=>absurd hb (by decide)) (fun _=>?_);simp only[go_sem,P,Q,hw];refine⟨⟨by omega,by omega⟩,⟨by omega,by omega⟩,?_⟩;refine bX [(0,true),(1,true),(2,true),(3,true),(4,true),(5,true),(6,true),(7,true),(8,true),(9,true),(10,true),(11,true),(12,true),(13,true),(14,false)] (by kernel_rfl) ?_;simp only[go_sem,P,Q];refine⟨⟨by omega,by omega⟩,⟨by omega,by omega⟩,⟨by omega,by omega⟩,⟨by omega,by omega⟩,?_⟩;refine bF Q ⟨Nat.zero_lt_one,rfl,Nat.le_of_ble_eq_true rfl⟩ fun G Q1 F=>?_
  replace P:=F _ _ np P;replace Q:G q=some ⟨64,16,[iG (aB ⟨name,[],pick,drop,skills,penalty,split,last,now,false⟩) (aB ⟨⟨#[]⟩,[],⟨0,0,0,0⟩,⟨0,0,0,0⟩,0,0,0,0,0,false⟩) 6]⟩:=Q1;clear Q1 F;simp only[go_sem,P,Q];refine bX [(0,true),(1,true),(2,true),(3,true),(4,true),(5,true),(6,true),(7,true),(8,true),(9,true),(10,true),(11,true),(12,true),(13,true),(14,false)] (by kernel_rfl) ?_;simp only[go_sem,P,Q];refine⟨⟨by omega,by omega⟩,⟨by omega,by omega⟩,⟨by omega,by omega⟩,⟨by omega,by omega⟩,?_⟩;refine bF Q ⟨Nat.zero_lt_one,rfl,Nat.le_of_ble_eq_true rfl⟩ fun G Q1 F=>?_
  replace P:=F _ _ np P;replace Q:G q=some ⟨64,16,[iG (aB ⟨name,[],pick,drop,skills,penalty,split,last,now,false⟩) (aB ⟨⟨#[]⟩,[],⟨0,0,0,0⟩,⟨0,0,0,0⟩,0,0,0,0,0,false⟩) 10]⟩:=Q1;clear Q1 F;simp only[go_sem,P,Q];refine bX [(0,true),(1,true),(2,true),(3,true),(4,true),(5,true),(6,true),(7,true),(8,true),(9,true),(10,true),(11,true),(12,true),(13,true),(14,true),(15,true),(16,false),(17,true),(18,false),(19,true),(20,false),(21,true),(22,false),(23,true),(24,false)] (by kernel_rfl) ?_;simp only[go_sem,P,Q];refine⟨⟨by omega,by omega⟩,⟨by omega,by omega⟩,⟨by omega,by omega⟩,⟨by omega,by omega⟩,⟨by omega,by omega⟩,?_⟩;refine bU so3 Q ⟨Nat.zero_lt_one,rfl,Nat.le_of_ble_eq_true rfl⟩ fun G Q1 F=>?_
  replace P:=F _ _ np P;replace Q:G q=some ⟨64,16,[iG (aB ⟨name,[],pick,drop,skills,penalty,split,last,now,false⟩) (aB ⟨⟨#[]⟩,[],⟨0,0,0,0⟩,⟨0,0,0,0⟩,0,0,0,0,0,false⟩) 11]⟩:=Q1;clear Q1 F;simp only[go_sem,P,Q];refine bU so3 Q ⟨Nat.zero_lt_one,rfl,Nat.le_of_ble_eq_true rfl⟩ fun G Q1 F=>?_
  replace P:=F _ _ np P;replace Q:G q=some ⟨64,16,[iG (aB ⟨name,[],pick,drop,skills,penalty,split,last,now,false⟩) (aB ⟨⟨#[]⟩,[],⟨0,0,0,0⟩,⟨0,0,0,0⟩,0,0,0,0,0,false⟩) 12]⟩:=Q1;clear Q1 F;simp only[go_sem,P,Q];refine bU so3 Q ⟨Nat.zero_lt_one,rfl,Nat.le_of_ble_eq_true rfl⟩ fun G Q1 F=>?_
  replace P:=F _ _ np P;replace Q:G q=some ⟨64,16,[iG (aB ⟨name,[],pick,drop,skills,penalty,split,last,now,false⟩) (aB ⟨⟨#[]⟩,[],⟨0,0,0,0⟩,⟨0,0,0,0⟩,0,0,0,0,0,false⟩) 13]⟩:=Q1;clear Q1 F;simp only[go_sem,P,Q];refine bU so3 Q ⟨Nat.zero_lt_one,rfl,Nat.le_of_ble_eq_true rfl⟩ fun G Q1 F=>?_
  replace P:=F _ _ np P;replace Q:G q=some ⟨64,16,[iG (aB ⟨name,[],pick,drop,skills,penalty,split,last,now,false⟩) (aB ⟨⟨#[]⟩,[],⟨0,0,0,0⟩,⟨0,0,0,0⟩,0,0,0,0,0,false⟩) 14]⟩:=Q1;clear Q1 F;simp only[go_sem,P,Q];refine bU so3 Q ⟨Nat.zero_lt_one,rfl,Nat.le_of_ble_eq_true rfl⟩ fun G Q1 F=>?_
  replace P:=F _ _ np P;replace Q:G q=some ⟨64,16,[iG (aB ⟨name,[],pick,drop,skills,penalty,split,last,now,false⟩) (aB ⟨⟨#[]⟩,[],⟨0,0,0,0⟩,⟨0,0,0,0⟩,0,0,0,0,0,false⟩) 15]⟩:=Q1;clear Q1 F;simp only[go_sem,P,Q];refine bF P ⟨Nat.zero_lt_one,rfl,Nat.le_of_ble_eq_true rfl⟩ fun G P1 F=>?_
  simp only[go_sem,P1];exact .refl _
 | [a],_=>
  have e:dU ⟨name,[a],pick,drop,skills,penalty,split,last,now,false⟩=[1,a,pick.place,pick.start,pick.close,pick.service,drop.place,drop.start,drop.close,drop.service,skills,penalty,split,last,now]:=rfl;rw[e]at hr;rw[e];simp only[go_sem,P];refine aA (fun hb=>absurd hb (by decide)) (fun _=>?_);simp only[go_sem,P];refine⟨⟨by omega,by omega⟩,PC.use hr ?_⟩;simp only[go_sem,P];refine⟨fun _=>⟨by omega,by omega⟩,fun _=>⟨by omega,by omega⟩,fun _=>⟨by omega,by omega⟩,aA (fun hb=>absurd hb (by decide +kernel)) (fun _=>?_)⟩;simp only[go_sem,P];refine⟨⟨by omega,by omega⟩,?_⟩;refine aL fun q G2 hq (Q:G2 q=some ⟨64,16,[iG (aB ⟨name,[a],pick,drop,skills,penalty,split,last,now,false⟩) (aB ⟨⟨#[]⟩,[],⟨0,0,0,0⟩,⟨0,0,0,0⟩,0,0,0,0,0,false⟩) 0]⟩) N=>?_
  obtain⟨np,P⟩:=N P;clear N hq;simp only[go_sem,P,Q];refine bF Q ⟨Nat.zero_lt_one,rfl,Nat.le_of_ble_eq_true rfl⟩ fun G Q1 F=>?_
  replace P:=F _ _ np P;replace Q:G q=some ⟨64,16,[iG (aB ⟨name,[a],pick,drop,skills,penalty,split,last,now,false⟩) (aB ⟨⟨#[]⟩,[],⟨0,0,0,0⟩,⟨0,0,0,0⟩,0,0,0,0,0,false⟩) 1]⟩:=Q1;clear Q1 F;simp only[go_sem,P,Q];refine⟨⟨by omega,by omega⟩,?_⟩;have hw:IntKind.i64.wrap (1+1)=2:=by decide +kernel
  refine aA (fun _=>?_) (fun hb=>absurd hb (by decide));simp only[go_sem,P,Q,hw];refine⟨⟨by omega,by omega⟩,⟨by omega,by omega⟩,?_⟩;refine bU Cs Q ⟨Nat.zero_lt_one,rfl,Nat.le_of_ble_eq_true rfl⟩ fun G Q1 F=>?_
  replace P:=F _ _ np P;replace Q:G q=some ⟨64,16,[iG (aB ⟨name,[a],pick,drop,skills,penalty,split,last,now,false⟩) (aB ⟨⟨#[]⟩,[],⟨0,0,0,0⟩,⟨0,0,0,0⟩,0,0,0,0,0,false⟩) 2]⟩:=Q1;clear Q1 F;simp only[go_sem,P,Q,hw];refine⟨⟨by omega,by omega⟩,⟨by omega,by omega⟩,?_⟩;refine bX [(0,true),(1,true),(2,true),(3,true),(4,true),(5,true),(6,true),(7,true),(8,true),(9,true),(10,true),(11,true),(12,true),(13,true),(14,false)] (by kernel_rfl) ?_;simp only[go_sem,P,Q];refine⟨⟨by omega,by omega⟩,⟨by omega,by omega⟩,⟨by omega,by omega⟩,⟨by omega,by omega⟩,?_⟩;refine bF Q ⟨Nat.zero_lt_one,rfl,Nat.le_of_ble_eq_true rfl⟩ fun G Q1 F=>?_
  replace P:=F _ _ np P;replace Q:G q=some ⟨64,16,[iG (aB ⟨name,[a],pick,drop,skills,penalty,split,last,now,false⟩) (aB ⟨⟨#[]⟩,[],⟨0,0,0,0⟩,⟨0,0,0,0⟩,0,0,0,0,0,false⟩) 6]⟩:=Q1;clear Q1 F;simp only[go_sem,P,Q];refine bX [(0,true),(1,true),(2,true),(3,true),(4,true),(5,true),(6,true),(7,true),(8,true),(9,true),(10,true),(11,true),(12,true),(13,true),(14,false)] (by kernel_rfl) ?_;simp only[go_sem,P,Q];refine⟨⟨by omega,by omega⟩,⟨by omega,by omega⟩,⟨by omega,by omega⟩,⟨by omega,by omega⟩,?_⟩;refine bF Q ⟨Nat.zero_lt_one,rfl,Nat.le_of_ble_eq_true rfl⟩ fun G Q1 F=>?_
  replace P:=F _ _ np P;replace Q:G q=some ⟨64,16,[iG (aB ⟨name,[a],pick,drop,skills,penalty,split,last,now,false⟩) (aB ⟨⟨#[]⟩,[],⟨0,0,0,0⟩,⟨0,0,0,0⟩,0,0,0,0,0,false⟩) 10]⟩:=Q1;clear Q1 F;simp only[go_sem,P,Q];refine bX [(0,true),(1,true),(2,true),(3,true),(4,true),(5,true),(6,true),(7,true),(8,true),(9,true),(10,true),(11,true),(12,true),(13,true),(14,true),(15,true),(16,false),(17,true),(18,false),(19,true),(20,false),(21,true),(22,false),(23,true),(24,false)] (by kernel_rfl) ?_;simp only[go_sem,P,Q];refine⟨⟨by omega,by omega⟩,⟨by omega,by omega⟩,⟨by omega,by omega⟩,⟨by omega,by omega⟩,⟨by omega,by omega⟩,?_⟩;refine bU so3 Q ⟨Nat.zero_lt_one,rfl,Nat.le_of_ble_eq_true rfl⟩ fun G Q1 F=>?_
  replace P:=F _ _ np P;replace Q:G q=some ⟨64,16,[iG (aB ⟨name,[a],pick,drop,skills,penalty,split,last,now,false⟩) (aB ⟨⟨#[]⟩,[],⟨0,0,0,0⟩,⟨0,0,0,0⟩,0,0,0,0,0,false⟩) 11]⟩:=Q1;clear Q1 F;simp only[go_sem,P,Q];refine bU so3 Q ⟨Nat.zero_lt_one,rfl,Nat.le_of_ble_eq_true rfl⟩ fun G Q1 F=>?_
  replace P:=F _ _ np P;replace Q:G q=some ⟨64,16,[iG (aB ⟨name,[a],pick,drop,skills,penalty,split,last,now,false⟩) (aB ⟨⟨#[]⟩,[],⟨0,0,0,0⟩,⟨0,0,0,0⟩,0,0,0,0,0,false⟩) 12]⟩:=Q1;clear Q1 F;simp only[go_sem,P,Q];refine bU so3 Q ⟨Nat.zero_lt_one,rfl,Nat.le_of_ble_eq_true rfl⟩ fun G Q1 F=>?_
  replace P:=F _ _ np P;replace Q:G q=some ⟨64,16,[iG (aB ⟨name,[a],pick,drop,skills,penalty,split,last,now,false⟩) (aB ⟨⟨#[]⟩,[],⟨0,0,0,0⟩,⟨0,0,0,0⟩,0,0,0,0,0,false⟩) 13]⟩:=Q1;clear Q1 F;simp only[go_sem,P,Q];refine bU so3 Q ⟨Nat.zero_lt_one,rfl,Nat.le_of_ble_eq_true rfl⟩ fun G Q1 F=>?_
  replace P:=F _ _ np P;replace Q:G q=some ⟨64,16,[iG (aB ⟨name,[a],pick,drop,skills,penalty,split,last,now,false⟩) (aB ⟨⟨#[]⟩,[],⟨0,0,0,0⟩,⟨0,0,0,0⟩,0,0,0,0,0,false⟩) 14]⟩:=Q1;clear Q1 F;simp only[go_sem,P,Q];refine bU so3 Q ⟨Nat.zero_lt_one,rfl,Nat.le_of_ble_eq_true rfl⟩ fun G Q1 F=>?_
  replace P:=F _ _ np P;replace Q:G q=some ⟨64,16,[iG (aB ⟨name,[a],pick,drop,skills,penalty,split,last,now,false⟩) (aB ⟨⟨#[]⟩,[],⟨0,0,0,0⟩,⟨0,0,0,0⟩,0,0,0,0,0,false⟩) 15]⟩:=Q1;clear Q1 F;simp only[go_sem,P,Q];refine bF P ⟨Nat.zero_lt_one,rfl,Nat.le_of_ble_eq_true rfl⟩ fun G P1 F=>?_
  simp only[go_sem,P1];exact .refl _
 | [a,b],_=>
  have e:dU ⟨name,[a,b],pick,drop,skills,penalty,split,last,now,false⟩=[2,a,b,pick.place,pick.start,pick.close,pick.service,drop.place,drop.start,drop.close,drop.service,skills,penalty,split,last,now]:=rfl;rw[e]at hr;rw[e];simp only[go_sem,P];refine aA (fun hb=>absurd hb (by decide)) (fun _=>?_);simp only[go_sem,P];refine⟨⟨by omega,by omega⟩,PC.use hr ?_⟩;simp only[go_sem,P];refine⟨fun _=>⟨by omega,by omega⟩,fun _=>⟨by omega,by omega⟩,fun _=>⟨by omega,by omega⟩,aA (fun hb=>absurd hb (by decide +kernel)) (fun _=>?_)⟩;simp only[go_sem,P];refine⟨⟨by omega,by omega⟩,?_⟩;refine aL fun q G2 hq (Q:G2 q=some ⟨64,16,[iG (aB ⟨name,[a,b],pick,drop,skills,penalty,split,last,now,false⟩) (aB ⟨⟨#[]⟩,[],⟨0,0,0,0⟩,⟨0,0,0,0⟩,0,0,0,0,0,false⟩) 0]⟩) N=>?_
  obtain⟨np,P⟩:=N P;clear N hq;simp only[go_sem,P,Q];refine bF Q ⟨Nat.zero_lt_one,rfl,Nat.le_of_ble_eq_true rfl⟩ fun G Q1 F=>?_
  replace P:=F _ _ np P;replace Q:G q=some ⟨64,16,[iG (aB ⟨name,[a,b],pick,drop,skills,penalty,split,last,now,false⟩) (aB ⟨⟨#[]⟩,[],⟨0,0,0,0⟩,⟨0,0,0,0⟩,0,0,0,0,0,false⟩) 1]⟩:=Q1;clear Q1 F;simp only[go_sem,P,Q];refine⟨⟨by omega,by omega⟩,?_⟩;have hw:IntKind.i64.wrap (1+2)=3:=by decide +kernel
  refine aA (fun _=>?_) (fun hb=>absurd hb (by decide));simp only[go_sem,P,Q,hw];refine⟨⟨by omega,by omega⟩,⟨by omega,by omega⟩,?_⟩;refine bU Cs Q ⟨Nat.zero_lt_one,rfl,Nat.le_of_ble_eq_true rfl⟩ fun G Q1 F=>?_
  replace P:=F _ _ np P;replace Q:G q=some ⟨64,16,[iG (aB ⟨name,[a,b],pick,drop,skills,penalty,split,last,now,false⟩) (aB ⟨⟨#[]⟩,[],⟨0,0,0,0⟩,⟨0,0,0,0⟩,0,0,0,0,0,false⟩) 2]⟩:=Q1;clear Q1 F;simp only[go_sem,P,Q,hw];refine⟨⟨by omega,by omega⟩,⟨by omega,by omega⟩,?_⟩;refine bX [(0,true),(1,true),(2,true),(3,true),(4,true),(5,true),(6,true),(7,true),(8,true),(9,true),(10,true),(11,true),(12,true),(13,true),(14,false)] (by kernel_rfl) ?_;simp only[go_sem,P,Q];refine⟨⟨by omega,by omega⟩,⟨by omega,by omega⟩,⟨by omega,by omega⟩,⟨by omega,by omega⟩,?_⟩;refine bF Q ⟨Nat.zero_lt_one,rfl,Nat.le_of_ble_eq_true rfl⟩ fun G Q1 F=>?_
  replace P:=F _ _ np P;replace Q:G q=some ⟨64,16,[iG (aB ⟨name,[a,b],pick,drop,skills,penalty,split,last,now,false⟩) (aB ⟨⟨#[]⟩,[],⟨0,0,0,0⟩,⟨0,0,0,0⟩,0,0,0,0,0,false⟩) 6]⟩:=Q1;clear Q1 F;simp only[go_sem,P,Q];refine bX [(0,true),(1,true),(2,true),(3,true),(4,true),(5,true),(6,true),(7,true),(8,true),(9,true),(10,true),(11,true),(12,true),(13,true),(14,false)] (by kernel_rfl) ?_;simp only[go_sem,P,Q];refine⟨⟨by omega,by omega⟩,⟨by omega,by omega⟩,⟨by omega,by omega⟩,⟨by omega,by omega⟩,?_⟩;refine bF Q ⟨Nat.zero_lt_one,rfl,Nat.le_of_ble_eq_true rfl⟩ fun G Q1 F=>?_
  replace P:=F _ _ np P;replace Q:G q=some ⟨64,16,[iG (aB ⟨name,[a,b],pick,drop,skills,penalty,split,last,now,false⟩) (aB ⟨⟨#[]⟩,[],⟨0,0,0,0⟩,⟨0,0,0,0⟩,0,0,0,0,0,false⟩) 10]⟩:=Q1;clear Q1 F;simp only[go_sem,P,Q];refine bX [(0,true),(1,true),(2,true),(3,true),(4,true),(5,true),(6,true),(7,true),(8,true),(9,true),(10,true),(11,true),(12,true),(13,true),(14,true),(15,true),(16,false),(17,true),(18,false),(19,true),(20,false),(21,true),(22,false),(23,true),(24,false)] (by kernel_rfl) ?_;simp only[go_sem,P,Q];refine⟨⟨by omega,by omega⟩,⟨by omega,by omega⟩,⟨by omega,by omega⟩,⟨by omega,by omega⟩,⟨by omega,by omega⟩,?_⟩;refine bU so3 Q ⟨Nat.zero_lt_one,rfl,Nat.le_of_ble_eq_true rfl⟩ fun G Q1 F=>?_
  replace P:=F _ _ np P;replace Q:G q=some ⟨64,16,[iG (aB ⟨name,[a,b],pick,drop,skills,penalty,split,last,now,false⟩) (aB ⟨⟨#[]⟩,[],⟨0,0,0,0⟩,⟨0,0,0,0⟩,0,0,0,0,0,false⟩) 11]⟩:=Q1;clear Q1 F;simp only[go_sem,P,Q];refine bU so3 Q ⟨Nat.zero_lt_one,rfl,Nat.le_of_ble_eq_true rfl⟩ fun G Q1 F=>?_
  replace P:=F _ _ np P;replace Q:G q=some ⟨64,16,[iG (aB ⟨name,[a,b],pick,drop,skills,penalty,split,last,now,false⟩) (aB ⟨⟨#[]⟩,[],⟨0,0,0,0⟩,⟨0,0,0,0⟩,0,0,0,0,0,false⟩) 12]⟩:=Q1;clear Q1 F;simp only[go_sem,P,Q];refine bU so3 Q ⟨Nat.zero_lt_one,rfl,Nat.le_of_ble_eq_true rfl⟩ fun G Q1 F=>?_
  replace P:=F _ _ np P;replace Q:G q=some ⟨64,16,[iG (aB ⟨name,[a,b],pick,drop,skills,penalty,split,last,now,false⟩) (aB ⟨⟨#[]⟩,[],⟨0,0,0,0⟩,⟨0,0,0,0⟩,0,0,0,0,0,false⟩) 13]⟩:=Q1;clear Q1 F;simp only[go_sem,P,Q];refine bU so3 Q ⟨Nat.zero_lt_one,rfl,Nat.le_of_ble_eq_true rfl⟩ fun G Q1 F=>?_
  replace P:=F _ _ np P;replace Q:G q=some ⟨64,16,[iG (aB ⟨name,[a,b],pick,drop,skills,penalty,split,last,now,false⟩) (aB ⟨⟨#[]⟩,[],⟨0,0,0,0⟩,⟨0,0,0,0⟩,0,0,0,0,0,false⟩) 14]⟩:=Q1;clear Q1 F;simp only[go_sem,P,Q];refine bU so3 Q ⟨Nat.zero_lt_one,rfl,Nat.le_of_ble_eq_true rfl⟩ fun G Q1 F=>?_
  replace P:=F _ _ np P;replace Q:G q=some ⟨64,16,[iG (aB ⟨name,[a,b],pick,drop,skills,penalty,split,last,now,false⟩) (aB ⟨⟨#[]⟩,[],⟨0,0,0,0⟩,⟨0,0,0,0⟩,0,0,0,0,0,false⟩) 15]⟩:=Q1;clear Q1 F;simp only[go_sem,P,Q];refine bF P ⟨Nat.zero_lt_one,rfl,Nat.le_of_ble_eq_true rfl⟩ fun G P1 F=>?_
  simp only[go_sem,P1];exact .refl _
 | [a,b,c],_=>
  have e:dU ⟨name,[a,b,c],pick,drop,skills,penalty,split,last,now,false⟩=[3,a,b,c,pick.place,pick.start,pick.close,pick.service,drop.place,drop.start,drop.close,drop.service,skills,penalty,split,last,now]:=rfl;rw[e]at hr;rw[e];simp only[go_sem,P];refine aA (fun hb=>absurd hb (by decide)) (fun _=>?_);simp only[go_sem,P];refine⟨⟨by omega,by omega⟩,PC.use hr ?_⟩;simp only[go_sem,P];refine⟨fun _=>⟨by omega,by omega⟩,fun _=>⟨by omega,by omega⟩,fun _=>⟨by omega,by omega⟩,aA (fun hb=>absurd hb (by decide +kernel)) (fun _=>?_)⟩;simp only[go_sem,P];refine⟨⟨by omega,by omega⟩,?_⟩;refine aL fun q G2 hq (Q:G2 q=some ⟨64,16,[iG (aB ⟨name,[a,b,c],pick,drop,skills,penalty,split,last,now,false⟩) (aB ⟨⟨#[]⟩,[],⟨0,0,0,0⟩,⟨0,0,0,0⟩,0,0,0,0,0,false⟩) 0]⟩) N=>?_
  obtain⟨np,P⟩:=N P;clear N hq;simp only[go_sem,P,Q];refine bF Q ⟨Nat.zero_lt_one,rfl,Nat.le_of_ble_eq_true rfl⟩ fun G Q1 F=>?_
  replace P:=F _ _ np P;replace Q:G q=some ⟨64,16,[iG (aB ⟨name,[a,b,c],pick,drop,skills,penalty,split,last,now,false⟩) (aB ⟨⟨#[]⟩,[],⟨0,0,0,0⟩,⟨0,0,0,0⟩,0,0,0,0,0,false⟩) 1]⟩:=Q1;clear Q1 F;simp only[go_sem,P,Q];refine⟨⟨by omega,by omega⟩,?_⟩;have hw:IntKind.i64.wrap (1+3)=4:=by decide +kernel
  refine aA (fun _=>?_) (fun hb=>absurd hb (by decide));simp only[go_sem,P,Q,hw];refine⟨⟨by omega,by omega⟩,⟨by omega,by omega⟩,?_⟩;refine bU Cs Q ⟨Nat.zero_lt_one,rfl,Nat.le_of_ble_eq_true rfl⟩ fun G Q1 F=>?_
  replace P:=F _ _ np P;replace Q:G q=some ⟨64,16,[iG (aB ⟨name,[a,b,c],pick,drop,skills,penalty,split,last,now,false⟩) (aB ⟨⟨#[]⟩,[],⟨0,0,0,0⟩,⟨0,0,0,0⟩,0,0,0,0,0,false⟩) 2]⟩:=Q1;clear Q1 F;simp only[go_sem,P,Q,hw];refine⟨⟨by omega,by omega⟩,⟨by omega,by omega⟩,?_⟩;refine bX [(0,true),(1,true),(2,true),(3,true),(4,true),(5,true),(6,true),(7,true),(8,true),(9,true),(10,true),(11,true),(12,true),(13,true),(14,false)] (by kernel_rfl) ?_;simp only[go_sem,P,Q];refine⟨⟨by omega,by omega⟩,⟨by omega,by omega⟩,⟨by omega,by omega⟩,⟨by omega,by omega⟩,?_⟩;refine bF Q ⟨Nat.zero_lt_one,rfl,Nat.le_of_ble_eq_true rfl⟩ fun G Q1 F=>?_
  replace P:=F _ _ np P;replace Q:G q=some ⟨64,16,[iG (aB ⟨name,[a,b,c],pick,drop,skills,penalty,split,last,now,false⟩) (aB ⟨⟨#[]⟩,[],⟨0,0,0,0⟩,⟨0,0,0,0⟩,0,0,0,0,0,false⟩) 6]⟩:=Q1;clear Q1 F;simp only[go_sem,P,Q];refine bX [(0,true),(1,true),(2,true),(3,true),(4,true),(5,true),(6,true),(7,true),(8,true),(9,true),(10,true),(11,true),(12,true),(13,true),(14,false)] (by kernel_rfl) ?_;simp only[go_sem,P,Q];refine⟨⟨by omega,by omega⟩,⟨by omega,by omega⟩,⟨by omega,by omega⟩,⟨by omega,by omega⟩,?_⟩;refine bF Q ⟨Nat.zero_lt_one,rfl,Nat.le_of_ble_eq_true rfl⟩ fun G Q1 F=>?_
  replace P:=F _ _ np P;replace Q:G q=some ⟨64,16,[iG (aB ⟨name,[a,b,c],pick,drop,skills,penalty,split,last,now,false⟩) (aB ⟨⟨#[]⟩,[],⟨0,0,0,0⟩,⟨0,0,0,0⟩,0,0,0,0,0,false⟩) 10]⟩:=Q1;clear Q1 F;simp only[go_sem,P,Q];refine bX [(0,true),(1,true),(2,true),(3,true),(4,true),(5,true),(6,true),(7,true),(8,true),(9,true),(10,true),(11,true),(12,true),(13,true),(14,true),(15,true),(16,false),(17,true),(18,false),(19,true),(20,false),(21,true),(22,false),(23,true),(24,false)] (by kernel_rfl) ?_;simp only[go_sem,P,Q];refine⟨⟨by omega,by omega⟩,⟨by omega,by omega⟩,⟨by omega,by omega⟩,⟨by omega,by omega⟩,⟨by omega,by omega⟩,?_⟩;refine bU so3 Q ⟨Nat.zero_lt_one,rfl,Nat.le_of_ble_eq_true rfl⟩ fun G Q1 F=>?_
  replace P:=F _ _ np P;replace Q:G q=some ⟨64,16,[iG (aB ⟨name,[a,b,c],pick,drop,skills,penalty,split,last,now,false⟩) (aB ⟨⟨#[]⟩,[],⟨0,0,0,0⟩,⟨0,0,0,0⟩,0,0,0,0,0,false⟩) 11]⟩:=Q1;clear Q1 F;simp only[go_sem,P,Q];refine bU so3 Q ⟨Nat.zero_lt_one,rfl,Nat.le_of_ble_eq_true rfl⟩ fun G Q1 F=>?_
  replace P:=F _ _ np P;replace Q:G q=some ⟨64,16,[iG (aB ⟨name,[a,b,c],pick,drop,skills,penalty,split,last,now,false⟩) (aB ⟨⟨#[]⟩,[],⟨0,0,0,0⟩,⟨0,0,0,0⟩,0,0,0,0,0,false⟩) 12]⟩:=Q1;clear Q1 F;simp only[go_sem,P,Q];refine bU so3 Q ⟨Nat.zero_lt_one,rfl,Nat.le_of_ble_eq_true rfl⟩ fun G Q1 F=>?_
  replace P:=F _ _ np P;replace Q:G q=some ⟨64,16,[iG (aB ⟨name,[a,b,c],pick,drop,skills,penalty,split,last,now,false⟩) (aB ⟨⟨#[]⟩,[],⟨0,0,0,0⟩,⟨0,0,0,0⟩,0,0,0,0,0,false⟩) 13]⟩:=Q1;clear Q1 F;simp only[go_sem,P,Q];refine bU so3 Q ⟨Nat.zero_lt_one,rfl,Nat.le_of_ble_eq_true rfl⟩ fun G Q1 F=>?_
  replace P:=F _ _ np P;replace Q:G q=some ⟨64,16,[iG (aB ⟨name,[a,b,c],pick,drop,skills,penalty,split,last,now,false⟩) (aB ⟨⟨#[]⟩,[],⟨0,0,0,0⟩,⟨0,0,0,0⟩,0,0,0,0,0,false⟩) 14]⟩:=Q1;clear Q1 F;simp only[go_sem,P,Q];refine bU so3 Q ⟨Nat.zero_lt_one,rfl,Nat.le_of_ble_eq_true rfl⟩ fun G Q1 F=>?_
  replace P:=F _ _ np P;replace Q:G q=some ⟨64,16,[iG (aB ⟨name,[a,b,c],pick,drop,skills,penalty,split,last,now,false⟩) (aB ⟨⟨#[]⟩,[],⟨0,0,0,0⟩,⟨0,0,0,0⟩,0,0,0,0,0,false⟩) 15]⟩:=Q1;clear Q1 F;simp only[go_sem,P,Q];refine bF P ⟨Nat.zero_lt_one,rfl,Nat.le_of_ble_eq_true rfl⟩ fun G P1 F=>?_
  simp only[go_sem,P1];exact .refl _
 | _::_::_::_::_,h3=>simp at h3
theorem wB:∀j<6,∀k<6,0<j→0<k→((Sc.aW (j:Nat)).toList == (Sc.aW (k:Nat)).toList)=decide (j=k):=by decide +kernel
def o0:Order:=⟨⟨#[]⟩,[],⟨0,0,0,0⟩,⟨0,0,0,0⟩,0,0,0,0,0,false⟩
theorem AI{s:Stop}(h:wG s=true):s=⟨0,0,0,0⟩:=by obtain⟨p,a,c,d⟩:=s;unfold wG at h;simp at h;simp[h]
theorem wV{o:Order}(h:pJ o=true):o=o0:=by
 obtain⟨name,load,pick,drop,skills,penalty,split,last,now,off⟩:=o;unfold pJ at h;simp only[Xag,Xan,Xay]at h;obtain⟨⟨⟨⟨⟨⟨⟨⟨⟨h1,h2⟩,h3⟩,h4⟩,h5⟩,h6⟩,h7⟩,h8⟩,h9⟩,h10⟩:=h;have e1:name=⟨#[]⟩:=by rw[Lib.toList_data,Lib.toList_data]at h1;exact ByteArray.ext (Array.ext' h1)
 have e2:load=[]:=List.length_eq_zero_iff.1 (by omega);rw[e1,e2,AI h3,AI h4,h5,h6,h7,h8,h9,h10];rfl
abbrev eM(at_ kind a b n:Int)(o:Order):Row:=⟨66,21,[bC ⟨at_,kind,a,b,n,o⟩]⟩
def PE(kind:Nat)(ws:List ByteArray)(e:D.Event):Prop:=
 (kind=1∧∃t o,bH t∧OkOrder o∧o.load.length≤3∧o.off=false∧ws=aH t::o.name::(dU o).map aH∧e=⟨t,1,0,0,0,o⟩) ∨
 (kind=2∧∃t a,bH t∧bH a∧ws=[aH t,aH a]∧e=⟨t,2,a,0,0,o0⟩) ∨
 (kind=3∧∃t a b n,bH t∧bH a∧bH b∧bH n∧ws=[aH t,aH a,aH b,aH n]∧e=⟨t,3,a,b,n,o0⟩) ∨
 (kind=4∧∃t a,bH t∧bH a∧ws=[aH t,aH a]∧e=⟨t,4,a,0,0,o0⟩) ∨
 (kind=5∧∃t a n,bH t∧bH a∧bH n∧ws=[aH t,aH a,aH n]∧e=⟨t,5,a,0,n,o0⟩)
theorem PE.pos{kind:Nat}{ws:List ByteArray}{e:D.Event}(h:PE kind ws e):0<kind∧kind<6∧0<ws.length∧ws.length≤100:=by
 rcases h with⟨rfl,t,o,h1,h2,h3,_,rfl,_⟩|⟨rfl,_,_,_,_,rfl,_⟩|⟨rfl,_,_,_,_,_,_,_,_,rfl,_⟩|⟨rfl,_,_,_,_,rfl,_⟩|⟨rfl,_,_,_,_,_,_,rfl,_⟩
 ·have:=(iN h2 h3).2;simp only[Xaa,Xab];omega
 all_goals simp
theorem L6{ws:List ByteArray}{e:D.Event}{kind:Nat}(h:PE kind ws e):PC prog 77 [.sl ((Sc.aW (kind:Nat)::ws).map D.bE)] (.tup [.agg (bC e),boo true]):=by
 obtain⟨hk0,hk6,hpos,hl⟩:=h.pos;refine pcd func77 rfl rfl ?_;simp only[go_sem];refine aL fun p G hp (P:G p=some (eM 0 0 0 0 0 o0)) N=>?_
 clear N hp;simp only[go_sem,P];refine aA (fun hb=>absurd (of_decide_eq_true hb) (by omega)) (fun _=>?_);simp only[go_sem,P];refine⟨fun ρ H=>∃(j:Nat),0<j∧j<7∧ρ 0=.sl ((Sc.aW (kind:Nat)::ws).map D.bE)∧ρ 2=.op p 0 0∧ρ 4=int (if kind<j then kind else 0:Nat)∧ρ 5=int j∧H p=some (eM 0 0 0 0 0 o0),fun ρ _=>7-bO (ρ 5),⟨1,by decide,by decide,by simp only[go_sem,Xak],by simp only[go_sem],by rw[if_neg (by omega)];simp only[go_sem];rfl,(by simp only[go_sem];rfl),P⟩,?_⟩;clear P;rintro ρ H ⟨j,hj0,hj7,e0,e2,e4,e5,P⟩;simp only[go_sem,e0,e2,e4,e5];refine aA (fun hlt=>?_) (fun hge=>?_)
 ·have hlt:j<6:=by have:=of_decide_eq_true hlt;omega
  have hwr:=cH j;simp only[go_sem,e0,e2,e4,e5];refine bX [(0,true),(1,true),(2,true),(3,true),(4,true),(5,true)] (by kernel_rfl) ?_;simp only[go_sem,e0,e2,e4,e5];refine⟨_,(Ev (j:Nat)).q rfl,?_⟩;simp only[go_sem,e0,e2,e4,e5];refine⟨⟨by omega,by omega⟩,?_⟩;rw[wB j hlt kind hk6 hj0 hk0];by_cases hjk:j=kind
  ·refine aA (fun _=>?_) (fun hb=>absurd (of_decide_eq_false hb) (by omega));simp only[go_sem,e0,e2,e4,e5,hwr];exact⟨⟨j+1,by omega,by omega,by rw[if_pos (by omega),hjk],rfl,P⟩,by simp only[aE];omega⟩
  ·refine aA (fun hb=>absurd (of_decide_eq_true hb) hjk) (fun _=>?_);simp only[go_sem,e0,e2,e4,e5,hwr];refine⟨⟨j+1,by omega,by omega,?_,rfl,P⟩,by simp only[aE];omega⟩
   congr 3
   exact propext ⟨fun _=>by omega,fun _=>by omega⟩
 have hj:j=6:=by have:=of_decide_eq_false hge;omega
 subst hj;rw[if_pos hk6]at e4;simp only[go_sem,e0,e2,e4,e5];refine aL fun q G hq0 (Q:G q=some (eM 0 0 0 0 0 o0)) N=>?_
 obtain⟨npq,P⟩:=N P;clear N hq0;simp only[go_sem,e0,e2,e4,e5,P,Q];refine bF Q ⟨Nat.zero_lt_one,rfl,Nat.le_of_ble_eq_true rfl⟩ fun G Q1 F=>?_
 replace P:=F _ _ npq P;replace Q:G q=some (eM 0 kind 0 0 0 o0):=Q1;clear F Q1;simp only[go_sem,e0,e2,e4,e5,P,Q];rcases h with⟨rfl,t,o,h1,h2,h3,h4,rfl,rfl⟩|⟨rfl,t,a,h1,h2,rfl,rfl⟩|⟨rfl,t,a,b,n,h1,h2,h3,h4,rfl,rfl⟩|⟨rfl,t,a,h1,h2,rfl,rfl⟩|⟨rfl,t,a,n,h1,h2,h3,rfl,rfl⟩
 ·refine aA (fun _=>?_) (fun hb=>absurd hb (by decide));simp only[go_sem,e0,e2,e4,e5,P,Q];refine⟨⟨by omega,by omega⟩,PC.use (wA t h1) ?_⟩;simp only[go_sem,e0,e2,e4,e5,P,Q];refine⟨⟨by omega,jA (f:=D.bE) (n:=1) (fun _=>rfl) _⟩,PC.use (zM o h2 h3 h4) ?_⟩;simp only[go_sem,e0,e2,e4,e5,P,Q];refine aL fun s G hs (S:G s=some ⟨64,16,[aB o0]⟩) N=>?_
  obtain⟨nps,P⟩:=N P;obtain⟨nqs,Q⟩:=N Q;clear N hs;simp only[go_sem,e0,e2,e4,e5,P,Q,S];refine bF S ⟨Nat.zero_lt_one,rfl,Nat.le_of_ble_eq_true rfl⟩ fun G S1 F=>?_
  replace P:=F _ _ nps P;replace Q:=F _ _ nqs Q;replace S:G s=some ⟨64,16,[aB o]⟩:=S1;clear F S1;simp only[go_sem,e0,e2,e4,e5,P,Q,S];refine rM [s] [(0,true),(1,true),(2,true),(3,false),(4,true),(5,false)] (by simp[S]) (by kernel_rfl) fun Hp Hr hp hr _ _=>?_
  have S1:=(hp s (by simp)).trans S;replace P:=(hr p (by simp[nps])).trans P;replace Q:=(hr q (by simp[nqs])).trans Q;clear hp hr S;simp only[go_sem,e0,e2,e4,e5,S1,P,Q];refine bU so3 Q ⟨Nat.zero_lt_one,rfl,Nat.le_of_ble_eq_true rfl⟩ fun G Q1 F=>?_
  replace P:=F _ _ npq P;replace Q:G q=some (eM t 1 0 0 0 o0):=Q1;clear F Q1;simp only[go_sem,e0,e2,e4,e5,S1,P,Q];refine bF Q ⟨Nat.zero_lt_one,rfl,Nat.le_of_ble_eq_true rfl⟩ fun G Q1 F=>?_
  replace P:=F _ _ npq P;replace Q:G q=some (eM t 1 0 0 0 o):=Q1;clear F Q1;simp only[go_sem,e0,e2,e4,e5,P,Q];refine cV fun h0 Hm _ hm2=>?_
  replace P:=(hm2 p (by simp[nps])).trans P;replace Q:=(hm2 q (by simp[nqs])).trans Q;simp only[go_sem,e0,e2,e4,e5,P,Q];refine bF P ⟨Nat.zero_lt_one,rfl,Nat.le_of_ble_eq_true rfl⟩ fun G P1 F=>?_
  simp only[go_sem,e2,P1];exact .refl _
 ·refine aA (fun hb=>absurd hb (by decide)) (fun _=>?_);simp only[go_sem,e0,e2,e4,e5,P,Q];have hr:=yO (l:=[t,a]) (by simp) (by intro m hm;simp only[Xaf,List.not_mem_nil,or_false]at hm;rcases hm with rfl|rfl <;> assumption);refine⟨⟨by omega,by omega⟩,PC.use hr ?_⟩;simp only[go_sem,e0,e2,e4,e5,P,Q];have hn:=lI ⟨0,2,0,0,0,o0⟩;rw[show gC ⟨0,2,0,0,0,o0⟩=[0,0]from rfl]at hn;refine⟨_,fun _=>hn.qn,?_⟩;simp only[go_sem,e0,e2,e4,e5,P,Q];refine aA (fun hb=>absurd hb (by decide)) (fun _=>?_);simp only[go_sem,e0,e2,e4,e5,P,Q];refine bX [(0,true),(1,true),(2,true),(3,true),(4,true),(5,true),(6,true),(7,false),(8,true),(9,false)] (by kernel_rfl) ?_;simp only[go_sem,e0,e2,e4,e5,P,Q];refine⟨⟨by omega,by omega⟩,⟨by omega,by omega⟩,?_⟩;refine bU so3 Q ⟨Nat.zero_lt_one,rfl,Nat.le_of_ble_eq_true rfl⟩ fun G Q1 F=>?_
  replace P:=F _ _ npq P;replace Q:G q=some (eM t 2 0 0 0 o0):=Q1;clear F Q1;simp only[go_sem,e0,e2,e4,e5,P,Q];refine bU so3 Q ⟨Nat.zero_lt_one,rfl,Nat.le_of_ble_eq_true rfl⟩ fun G Q1 F=>?_
  replace P:=F _ _ npq P;replace Q:G q=some (eM t 2 a 0 0 o0):=Q1;clear F Q1;simp only[go_sem,e0,e2,e4,e5,P,Q];refine aA (fun hb=>absurd hb (by decide)) (fun _=>?_);simp only[go_sem,e0,e2,e4,e5,P,Q];refine aA (fun hb=>absurd hb (by decide)) (fun _=>?_);simp only[go_sem,e0,e2,e4,e5,P,Q];refine bF P ⟨Nat.zero_lt_one,rfl,Nat.le_of_ble_eq_true rfl⟩ fun G P1 F=>?_
  simp only[go_sem,e2,P1];exact .refl _
 ·refine aA (fun hb=>absurd hb (by decide)) (fun _=>?_);simp only[go_sem,e0,e2,e4,e5,P,Q];have hr:=yO (l:=[t,a,b,n]) (by simp) (by intro m hm;simp only[Xaf,List.not_mem_nil,or_false]at hm;rcases hm with rfl|rfl|rfl|rfl <;> assumption);refine⟨⟨by omega,by omega⟩,PC.use hr ?_⟩;simp only[go_sem,e0,e2,e4,e5,P,Q];have hn:=lI ⟨0,3,0,0,0,o0⟩;rw[show gC ⟨0,3,0,0,0,o0⟩=[0,0,0,0]from rfl]at hn;refine⟨_,fun _=>hn.qn,?_⟩;simp only[go_sem,e0,e2,e4,e5,P,Q];refine aA (fun hb=>absurd hb (by decide)) (fun _=>?_);simp only[go_sem,e0,e2,e4,e5,P,Q];refine bX [(0,true),(1,true),(2,true),(3,true),(4,true),(5,true),(6,true),(7,false),(8,true),(9,false)] (by kernel_rfl) ?_;simp only[go_sem,e0,e2,e4,e5,P,Q];refine⟨⟨by omega,by omega⟩,⟨by omega,by omega⟩,?_⟩;refine bU so3 Q ⟨Nat.zero_lt_one,rfl,Nat.le_of_ble_eq_true rfl⟩ fun G Q1 F=>?_
  replace P:=F _ _ npq P;replace Q:G q=some (eM t 3 0 0 0 o0):=Q1;clear F Q1;simp only[go_sem,e0,e2,e4,e5,P,Q];refine bU so3 Q ⟨Nat.zero_lt_one,rfl,Nat.le_of_ble_eq_true rfl⟩ fun G Q1 F=>?_
  replace P:=F _ _ npq P;replace Q:G q=some (eM t 3 a 0 0 o0):=Q1;clear F Q1;simp only[go_sem,e0,e2,e4,e5,P,Q];refine aA (fun _=>?_) (fun hb=>absurd hb (by decide));simp only[go_sem,e0,e2,e4,e5,P,Q];refine bX [(0,true),(1,true),(2,true),(3,true),(4,true),(5,true),(6,true),(7,false),(8,true),(9,false)] (by kernel_rfl) ?_;simp only[go_sem,e0,e2,e4,e5,P,Q];refine⟨⟨by omega,by omega⟩,⟨by omega,by omega⟩,?_⟩;refine bU so3 Q ⟨Nat.zero_lt_one,rfl,Nat.le_of_ble_eq_true rfl⟩ fun G Q1 F=>?_
  replace P:=F _ _ npq P;replace Q:G q=some (eM t 3 a b 0 o0):=Q1;clear F Q1;simp only[go_sem,e0,e2,e4,e5,P,Q];refine bU so3 Q ⟨Nat.zero_lt_one,rfl,Nat.le_of_ble_eq_true rfl⟩ fun G Q1 F=>?_
  replace P:=F _ _ npq P;replace Q:G q=some (eM t 3 a b n o0):=Q1;clear F Q1;simp only[go_sem,e0,e2,e4,e5,P,Q];refine bF P ⟨Nat.zero_lt_one,rfl,Nat.le_of_ble_eq_true rfl⟩ fun G P1 F=>?_
  simp only[go_sem,e2,P1];exact .refl _
 ·refine aA (fun hb=>absurd hb (by decide)) (fun _=>?_);simp only[go_sem,e0,e2,e4,e5,P,Q];have hr:=yO (l:=[t,a]) (by simp) (by intro m hm;simp only[Xaf,List.not_mem_nil,or_false]at hm;rcases hm with rfl|rfl <;> assumption);refine⟨⟨by omega,by omega⟩,PC.use hr ?_⟩;simp only[go_sem,e0,e2,e4,e5,P,Q];have hn:=lI ⟨0,4,0,0,0,o0⟩;rw[show gC ⟨0,4,0,0,0,o0⟩=[0,0]from rfl]at hn;refine⟨_,fun _=>hn.qn,?_⟩;simp only[go_sem,e0,e2,e4,e5,P,Q];refine aA (fun hb=>absurd hb (by decide)) (fun _=>?_);simp only[go_sem,e0,e2,e4,e5,P,Q];refine bX [(0,true),(1,true),(2,true),(3,true),(4,true),(5,true),(6,true),(7,false),(8,true),(9,false)] (by kernel_rfl) ?_;simp only[go_sem,e0,e2,e4,e5,P,Q];refine⟨⟨by omega,by omega⟩,⟨by omega,by omega⟩,?_⟩;refine bU so3 Q ⟨Nat.zero_lt_one,rfl,Nat.le_of_ble_eq_true rfl⟩ fun G Q1 F=>?_
  replace P:=F _ _ npq P;replace Q:G q=some (eM t 4 0 0 0 o0):=Q1;clear F Q1;simp only[go_sem,e0,e2,e4,e5,P,Q];refine bU so3 Q ⟨Nat.zero_lt_one,rfl,Nat.le_of_ble_eq_true rfl⟩ fun G Q1 F=>?_
  replace P:=F _ _ npq P;replace Q:G q=some (eM t 4 a 0 0 o0):=Q1;clear F Q1;simp only[go_sem,e0,e2,e4,e5,P,Q];refine aA (fun hb=>absurd hb (by decide)) (fun _=>?_);simp only[go_sem,e0,e2,e4,e5,P,Q];refine aA (fun hb=>absurd hb (by decide)) (fun _=>?_);simp only[go_sem,e0,e2,e4,e5,P,Q];refine bF P ⟨Nat.zero_lt_one,rfl,Nat.le_of_ble_eq_true rfl⟩ fun G P1 F=>?_
  simp only[go_sem,e2,P1];exact .refl _
 ·refine aA (fun hb=>absurd hb (by decide)) (fun _=>?_);simp only[go_sem,e0,e2,e4,e5,P,Q];have hr:=yO (l:=[t,a,n]) (by simp) (by intro m hm;simp only[Xaf,List.not_mem_nil,or_false]at hm;rcases hm with rfl|rfl|rfl <;> assumption);refine⟨⟨by omega,by omega⟩,PC.use hr ?_⟩;simp only[go_sem,e0,e2,e4,e5,P,Q];have hn:=lI ⟨0,5,0,0,0,o0⟩;rw[show gC ⟨0,5,0,0,0,o0⟩=[0,0,0]from rfl]at hn;refine⟨_,fun _=>hn.qn,?_⟩;simp only[go_sem,e0,e2,e4,e5,P,Q];refine aA (fun hb=>absurd hb (by decide)) (fun _=>?_);simp only[go_sem,e0,e2,e4,e5,P,Q];refine bX [(0,true),(1,true),(2,true),(3,true),(4,true),(5,true),(6,true),(7,false),(8,true),(9,false)] (by kernel_rfl) ?_;simp only[go_sem,e0,e2,e4,e5,P,Q];refine⟨⟨by omega,by omega⟩,⟨by omega,by omega⟩,?_⟩;refine bU so3 Q ⟨Nat.zero_lt_one,rfl,Nat.le_of_ble_eq_true rfl⟩ fun G Q1 F=>?_
  replace P:=F _ _ npq P;replace Q:G q=some (eM t 5 0 0 0 o0):=Q1;clear F Q1;simp only[go_sem,e0,e2,e4,e5,P,Q];refine bU so3 Q ⟨Nat.zero_lt_one,rfl,Nat.le_of_ble_eq_true rfl⟩ fun G Q1 F=>?_
  replace P:=F _ _ npq P;replace Q:G q=some (eM t 5 a 0 0 o0):=Q1;clear F Q1;simp only[go_sem,e0,e2,e4,e5,P,Q];refine aA (fun hb=>absurd hb (by decide)) (fun _=>?_);simp only[go_sem,e0,e2,e4,e5,P,Q];refine aA (fun _=>?_) (fun hb=>absurd hb (by decide));simp only[go_sem,e0,e2,e4,e5,P,Q];refine⟨⟨by omega,by omega⟩,?_⟩;refine bU so3 Q ⟨Nat.zero_lt_one,rfl,Nat.le_of_ble_eq_true rfl⟩ fun G Q1 F=>?_
  replace P:=F _ _ npq P;replace Q:G q=some (eM t 5 a 0 n o0):=Q1;clear F Q1;simp only[go_sem,e0,e2,e4,e5,P,Q];refine bF P ⟨Nat.zero_lt_one,rfl,Nat.le_of_ble_eq_true rfl⟩ fun G P1 F=>?_
  simp only[go_sem,e2,P1];exact .refl _
end Sk
namespace Sp
open Go.Proofs.Tryz
open Go.Proofs.YthbiheckeoknlaaGreatDoor
open Go.Proofs.YthbiheckeoknlaaGreatDoor.Nw (ltB geB cB)
open Go.Proofs.YthbiheckeoknlaaGreatDoor.Sk
open Go.Proofs.YthbiheckeoknlaaGreatDoor.Sc
theorem OK(l:List ByteArray)(hl:l.length≤1048576)(hs:∀p∈l,p.size≤1048576):∃(ns:List Int) (ok:Bool),PC prog 138 [.sl (l.map D.bE)] (.tup [.sl (ns.map D.aY),boo ok])∧(ok=true→l=ns.map aH∧∀n∈ns,bH n)∧(ok=false→ns=[]∧∀ns:List Int,(∀n∈ns,bH n)→l≠ns.map aH):=by
 by_cases h:∃ns:List Int,(∀n∈ns,bH n)∧l=ns.map aH
 ·obtain⟨ns,h1,rfl⟩:=h;exact⟨ns,true,yO (by simpa using hl) h1,fun _=>⟨rfl,h1⟩,fun h=>by cases h⟩
 refine⟨[],false,?_,(fun h=>by cases h),fun _=>⟨rfl,fun ns h1 h2=>h ⟨ns,h1,h2⟩⟩⟩;refine pcb (fun t=>t == 4) func138 rfl rfl ?_;simp only[go_sem];refine aL fun i HGi hi0 (Ri:HGi i=some (gA [])) N=>?_
 clear N hi0;simp only[go_sem,Ri];refine⟨fun ρ H=>∃(ns:List Int) (i:Nat),ns.length≤l.length∧ρ 9=.sl (l.map D.bE)∧ρ 10=int (l.length:Nat)∧ρ 11=int (ns.length:Nat)∧ρ 4=.os i∧H i=some (gA ns)∧l.take ns.length=ns.map aH∧∀n∈ns,bH n,fun ρ _=>l.length-bO (ρ 11),⟨[],i,Xad _,by simp only[go_sem],by simp only[go_sem,Xab],(by simp only[go_sem];rfl),by simp only[go_sem],Ri,rfl,by simp⟩,?_⟩;clear Ri;rintro ρ H ⟨ns,i,hk,e9,e10,e11,e4,Ri,htk,hi⟩;simp only[go_sem,e9,e10,e11,e4];refine aA (fun hlt=>?_) (fun hge=>?_)
 ·have hlt:=ltB hlt;obtain⟨p,hp⟩:=cG hlt;have hwr:=fM (show ns.length≤4611686018427387904 by omega);have b1:=inB hlt;simp only[go_sem,e9,e10,e11,e4,aM hp,b1];obtain⟨n,e,hc,hq⟩:=vW p (hs p (aQ hp));refine bB hc ?_;simp only[go_sem,e9,e10,e11,e4];refine aA (fun _=>?_) (fun he=>?_)
  ·simp only[go_sem];exact .refl _
  have he:e=0:=by simpa using he
  rcases hq with⟨_,hn,rfl⟩|⟨h2,_⟩
  ·simp only[go_sem,e9,e10,e11,e4];refine aP Ri ⟨rfl,rfl⟩ (by simp only[go_sem]) (by simp only[Xab,Xaa,List.length_nil];omega) fun j' hj'=>?_
   simp only[go_sem,e9,e10,e11,e4,hwr];refine⟨⟨ns++[n],j',by rw[Xac,List.length_singleton];exact hlt,by simp,rfl,by rw[aD,gA,Xal];rfl,?_,fun m hm=>?_⟩,by simp only[aE];omega⟩
   ·rw[Xac,List.length_singleton,fL hp,htk,Xal];rfl
   ·rcases Xap.1 hm with h|h
    ·exact hi m h
    ·rw[Xbb.1 h];exact hn
  ·exact absurd he h2
 ·have hge:=geB hk hge;rw[hge,Xaj (Xae _)]at htk;exact absurd ⟨ns,hi,htk⟩ h
def N8(l:List ByteArray)(o:Order):Prop:=OkOrder o∧o.load.length≤3∧o.off=false∧l=o.name::(dU o).map aH
theorem NR{w:ByteArray}{ns:List Int}(hw:w.size≤1048576)(hi:∀n∈ns,bH n){n0:Int}(h0:ns[0]?=some n0)(h1:0≤n0)(h3:n0≤3)(hl:(ns.length:Int)=n0+14):∃o,N8 (w::ns.map aH) o:=by
 cases ns with
 | nil=>cases h0
 | cons a r=>
 simp only[List.getElem?_cons_zero,Option.some.injEq]at h0;subst h0;obtain⟨k,rfl⟩:=Int.eq_ofNat_of_zero_le h1;simp only[Xaa]at hl;have hk:k≤3:=by omega
 have hr:(r.drop k).length=13:=by rw[List.length_drop];omega
 have hlen:(r.take k).length=k:=by rw[Xas];omega
 match hd:r.drop k,hr with
 | [a0,a1,a2,a3,a4,a5,a6,a7,a8,a9,a10,a11,a12],_=>
 have hm:∀n∈r.drop k,bH n:=fun n hn=>hi n (by simp[List.mem_of_mem_drop hn])
 rw[hd]at hm;refine⟨⟨w,r.take k,⟨a0,a1,a2,a3⟩,⟨a4,a5,a6,a7⟩,a8,a9,a10,a11,a12,false⟩,⟨hw,by show(r.take k).length≤_;omega,fun n hn=>hi n (by simp[List.mem_of_mem_take hn]),⟨hm _ (by simp),hm _ (by simp),hm _ (by simp),hm _ (by simp)⟩,⟨hm _ (by simp),hm _ (by simp),hm _ (by simp),hm _ (by simp)⟩,hm _ (by simp),hm _ (by simp),hm _ (by simp),hm _ (by simp),hm _ (by simp)⟩,by show(r.take k).length≤3;omega,rfl,?_⟩;have e:dU ⟨w,r.take k,⟨a0,a1,a2,a3⟩,⟨a4,a5,a6,a7⟩,a8,a9,a10,a11,a12,false⟩=(k:Int)::(r.take k++r.drop k):=by rw[hd];simp[dU,fZ,hlen]
 rw[e,List.take_append_drop]
theorem Ha(l:List ByteArray)(hl:l.length≤1048576)(hs:∀p∈l,p.size≤1048576):∃(o:Order) (ok:Bool),PC prog 137 [.sl (l.map D.bE)] (.tup [.agg (aB o),boo ok])∧(ok=true→N8 l o)∧(ok=false→∀o,¬N8 l o):=by
 by_cases h:∃o,N8 l o
 ·obtain⟨o,h1,h2,h3,rfl⟩:=h;exact⟨o,true,zM o h1 h2 h3,fun _=>⟨h1,h2,h3,rfl⟩,fun h=>by cases h⟩
 refine⟨o0,false,?_,(fun h=>by cases h),fun _ o ho=>h ⟨o,ho⟩⟩;refine pcd func137 rfl rfl ?_;simp only[go_sem];refine aL fun p G hp (P:G p=some ⟨64,16,[aB o0]⟩) N=>?_
 clear N hp;simp only[go_sem,P];refine aA (fun hb=>?_) (fun hb=>?_)
 ·simp only[go_sem,P];refine bF P ⟨Nat.zero_lt_one,rfl,Nat.le_of_ble_eq_true rfl⟩ fun G P1 F=>?_
  simp only[go_sem,P1];exact .refl _
 have h2:2≤l.length:=by
  have:¬(l.length:Int)<2:=by simpa using hb
  omega
 match l,h2 with
 | w::v::l',_=>
 obtain⟨ns,ok,hc,hq1,hq2⟩:=OK (v::l') (by simp only[Xaa]at hl ⊢;omega) fun p hp=>hs p (by simp[hp])
 simp only[go_sem,P];refine⟨⟨by omega,jA (f:=D.bE) (n:=1) (fun _=>rfl) l'⟩,PC.use hc ?_⟩;cases ok with
 | false=>
  obtain⟨rfl,_⟩:=hq2 rfl;simp only[go_sem,P,Bool.not_false,Xbi,Xao,List.getD_nil];refine aA (fun _=>?_) (fun h=>absurd h (by decide));simp only[go_sem,P];refine bF P ⟨Nat.zero_lt_one,rfl,Nat.le_of_ble_eq_true rfl⟩ fun G P1 F=>?_
  simp only[go_sem,P1];exact .refl _
 | true=>
  obtain⟨h1,h2⟩:=hq1 rfl;cases ns with
  | nil=>cases h1
  | cons n0 ns=>
  simp only[go_sem,P];refine⟨fun _=>⟨by omega,by omega⟩,fun _=>⟨by omega,by omega⟩,fun _=>⟨by omega,by omega⟩,aA (fun _=>?_) (fun hb=>?_)⟩
  ·simp only[go_sem,P];refine bF P ⟨Nat.zero_lt_one,rfl,Nat.le_of_ble_eq_true rfl⟩ fun G P1 F=>?_
   simp only[go_sem,P1];exact .refl _
  ·simp only[Xaq,Xbi,true_and]at hb;obtain⟨⟨b1,b2⟩,b3⟩:=hb;have b1:0≤n0:=by simpa using b1
   have b2:n0≤3:=by simpa using b2
   rw[dI (by rw[dI (by omega)];omega),dI (by omega)]at b3;have b3:((ns.length+1:Nat):Int)=1+n0+13:=by simpa using b3
   obtain⟨o,ho⟩:=NR (w:=w) (ns:=n0::ns) (hs w (by simp)) h2 rfl b1 b2 (by simp only[Xaa];omega);rw[←h1]at ho;exact absurd ⟨o,ho⟩ h
theorem P9(l:List ByteArray)(hl:l.length≤1048576)(hs:∀p∈l,p.size≤1048576):∃(e:D.Event) (ok:Bool),PC prog 77 [.sl (l.map D.bE)] (.tup [.agg (bC e),boo ok])∧(ok=true→∃(kind:Nat) (ws:List ByteArray),PE kind ws e):=by
 by_cases h:∃(kind:Nat) (ws:List ByteArray) (e:D.Event),PE kind ws e∧l=Sc.aW (kind:Nat)::ws
 ·obtain⟨kind,ws,e,h,rfl⟩:=h;exact⟨e,true,L6 h,fun _=>⟨kind,ws,h⟩⟩
 suffices hx:∃e:D.Event,PC prog 77 [.sl (l.map D.bE)] (.tup [.agg (bC e),boo false])by obtain⟨e,he⟩:=hx;exact⟨e,false,he,fun h=>by cases h⟩
 by_cases h2:l.length<2
 ·refine⟨⟨0,0,0,0,0,o0⟩,?_⟩;refine pcd func77 rfl rfl ?_;simp only[go_sem];refine aL fun p G hp (P:G p=some (eM 0 0 0 0 0 o0)) N=>?_
  clear N hp;simp only[go_sem,P];refine aA (fun _=>?_) (fun hb=>absurd (of_decide_eq_false hb) (by omega));simp only[go_sem,P];refine bF P ⟨Nat.zero_lt_one,rfl,Nat.le_of_ble_eq_true rfl⟩ fun G P1 F=>?_
  simp only[go_sem,P1];exact .refl _
 obtain⟨w,v,l',rfl⟩:∃w v l',l=w::v::l':=by
  match l,h2 with
  | [],h2=>exact absurd (by simp) h2
  | [_],h2=>exact absurd (by simp) h2
  | w::v::l',_=>exact⟨w,v,l',rfl⟩
 obtain⟨n1,er,hc1,hq1⟩:=vW v (hs v (by simp));obtain⟨o,oko,hc2,hq2,_⟩:=Ha l' (by simp only[Xaa]at hl;omega) fun p hp=>hs p (by simp[hp])
 obtain⟨ns,okn,hc3,hq3,_⟩:=OK (v::l') (by simp only[Xaa]at hl ⊢;omega) fun p hp=>hs p (by simp[hp])
 obtain⟨κ,hk6,hκ,hw⟩:∃κ:Nat,κ<6∧(∀j:Nat,0<j→j<6→((Sc.aW (j:Nat)).toList == w.toList)=decide (j=κ))∧(κ≠0→w=Sc.aW (κ:Nat)):=by
  by_cases hx:∃k:Nat,0<k∧k<6∧w=Sc.aW (k:Nat)
  ·obtain⟨k,h0,h6,rfl⟩:=hx;exact⟨k,h6,fun j h1 h2=>wB j h2 k h6 h1 h0,fun _=>rfl⟩
  ·refine⟨0,by decide,fun j h1 h2=>?_,fun h=>absurd rfl h⟩;rw[decide_eq_false (by omega)];cases hb:(Sc.aW (j:Nat)).toList == w.toList with
   | false=>rfl
   | true=>exact absurd ⟨j,h1,h2,(gI hb).symm⟩ hx
 refine⟨if κ=1 then⟨n1,1,0,0,0,o⟩else⟨0,0,0,0,0,o0⟩,?_⟩;refine pcd func77 rfl rfl ?_;simp only[go_sem];refine aL fun p G hp (P:G p=some (eM 0 0 0 0 0 o0)) N=>?_
 clear N hp;simp only[go_sem,P];refine aA (fun hb=>absurd (of_decide_eq_true hb) (by omega)) (fun _=>?_);simp only[go_sem,P];refine⟨fun ρ H=>∃(j:Nat),0<j∧j<7∧ρ 0=.sl ((w::v::l').map D.bE)∧ρ 2=.op p 0 0∧ρ 4=int (if κ<j then κ else 0:Nat)∧ρ 5=int j∧H p=some (eM 0 0 0 0 0 o0),fun ρ _=>7-bO (ρ 5),⟨1,by decide,by decide,by simp only[go_sem,Xak],by simp only[go_sem],?_,by simp only[go_sem];rfl,P⟩,?_⟩
 ·by_cases h0:κ<1
  ·rw[if_pos h0,show κ=0 by omega];simp only[go_sem];rfl
  ·rw[if_neg h0];simp only[go_sem];rfl
 clear P;rintro ρ H ⟨j,hj0,hj7,e0,e2,e4,e5,P⟩;simp only[go_sem,e0,e2,e4,e5];refine aA (fun hlt=>?_) (fun hge=>?_)
 ·have hlt:j<6:=by have:=of_decide_eq_true hlt;omega
  have hwr:=cH j;simp only[go_sem,e0,e2,e4,e5];refine bX [(0,true),(1,true),(2,true),(3,true),(4,true),(5,true)] (by kernel_rfl) ?_;simp only[go_sem,e0,e2,e4,e5];refine⟨_,(Ev (j:Nat)).q rfl,?_⟩;simp only[go_sem,e0,e2,e4,e5];refine⟨⟨by omega,by omega⟩,?_⟩;rw[hκ j hj0 hlt];by_cases hjk:j=κ
  ·refine aA (fun _=>?_) (fun hb=>absurd (of_decide_eq_false hb) (by omega));simp only[go_sem,e0,e2,e4,e5,hwr];exact⟨⟨j+1,by omega,by omega,by rw[if_pos (by omega),hjk],rfl,P⟩,by simp only[aE];omega⟩
  ·refine aA (fun hb=>absurd (of_decide_eq_true hb) hjk) (fun _=>?_);simp only[go_sem,e0,e2,e4,e5,hwr];refine⟨⟨j+1,by omega,by omega,?_,rfl,P⟩,by simp only[aE];omega⟩
   congr 3
   exact propext ⟨fun _=>by omega,fun _=>by omega⟩
 have hj:j=6:=by have:=of_decide_eq_false hge;omega
 subst hj;rw[if_pos hk6]at e4;simp only[go_sem,e0,e2,e4,e5];refine aL fun q G hq0 (Q:G q=some (eM 0 0 0 0 0 o0)) N=>?_
 obtain⟨npq,P⟩:=N P;clear N hq0;simp only[go_sem,e0,e2,e4,e5,P,Q];refine bF Q ⟨Nat.zero_lt_one,rfl,Nat.le_of_ble_eq_true rfl⟩ fun G Q1 F=>?_
 replace P:=F _ _ npq P;replace Q:G q=some (eM 0 κ 0 0 0 o0):=Q1;clear F Q1;simp only[go_sem,e0,e2,e4,e5,P,Q];by_cases h1:κ=1
 ·subst h1;refine aA (fun _=>?_) (fun hb=>absurd hb (by decide));simp only[go_sem,e0,e2,e4,e5,P,Q];refine⟨⟨by omega,by omega⟩,PC.use hc1 ?_⟩;simp only[go_sem,e0,e2,e4,e5,P,Q];refine⟨⟨by omega,jA (f:=D.bE) (n:=1) (fun _=>rfl) _⟩,PC.use hc2 ?_⟩;simp only[go_sem,e0,e2,e4,e5,P,Q];refine aL fun s G hs (S:G s=some ⟨64,16,[aB o0]⟩) N=>?_
  obtain⟨nps,P⟩:=N P;obtain⟨nqs,Q⟩:=N Q;clear N hs;simp only[go_sem,e0,e2,e4,e5,P,Q,S];refine bF S ⟨Nat.zero_lt_one,rfl,Nat.le_of_ble_eq_true rfl⟩ fun G S1 F=>?_
  replace P:=F _ _ nps P;replace Q:=F _ _ nqs Q;replace S:G s=some ⟨64,16,[aB o]⟩:=S1;clear F S1;simp only[go_sem,e0,e2,e4,e5,P,Q,S];refine rM [s] [(0,true),(1,true),(2,true),(3,false),(4,true),(5,false)] (by simp[S]) (by kernel_rfl) fun Hp Hr hp hr _ _=>?_
  have S1:=(hp s (by simp)).trans S;replace P:=(hr p (by simp[nps])).trans P;replace Q:=(hr q (by simp[nqs])).trans Q;clear hp hr S;simp only[go_sem,e0,e2,e4,e5,S1,P,Q];refine bU so3 Q ⟨Nat.zero_lt_one,rfl,Nat.le_of_ble_eq_true rfl⟩ fun G Q1 F=>?_
  replace P:=F _ _ npq P;replace Q:G q=some (eM n1 1 0 0 0 o0):=Q1;clear F Q1;simp only[go_sem,e0,e2,e4,e5,S1,P,Q];refine bF Q ⟨Nat.zero_lt_one,rfl,Nat.le_of_ble_eq_true rfl⟩ fun G Q1 F=>?_
  replace P:=F _ _ npq P;replace Q:G q=some (eM n1 1 0 0 0 o):=Q1;clear F Q1;simp only[go_sem,e0,e2,e4,e5,P,Q];refine cV fun h0 Hm _ hm2=>?_
  replace P:=(hm2 p (by simp[nps])).trans P;replace Q:=(hm2 q (by simp[nqs])).trans Q;have hno:¬(oko=true∧er=0):=fun⟨q1,q2⟩=>by
   obtain⟨p1,p2,p3,p4⟩:=hq2 q1;rcases hq1 with⟨_,hn,rfl⟩|⟨hn,_⟩
   ·exact h ⟨1,_,_,.inl ⟨rfl,n1,o,hn,p1,p2,p3,rfl,rfl⟩,by rw[hw (by decide),p4]⟩
   ·exact hn q2
  simp only[go_sem,e0,e2,e4,e5,P,Q];refine bF P ⟨Nat.zero_lt_one,rfl,Nat.le_of_ble_eq_true rfl⟩ fun G P1 F=>?_
  simp only[go_sem,e2,P1];have hz:(oko&&er == 0)=false:=by
   cases oko with
   | false=>rfl
   | true=>rw[Bool.true_and,beq_eq_false_iff_ne];exact fun e=>hno ⟨rfl,e⟩
  rw[hz];exact .refl _
 ·refine aA (fun hb=>absurd (eq_of_beq hb) (by omega)) (fun _=>?_);rw[if_neg h1];simp only[go_sem,e0,e2,e4,e5,P,Q];refine⟨⟨by omega,jA (f:=D.bE) (n:=1) (fun _=>rfl) _⟩,PC.use hc3 ?_⟩;simp only[go_sem,e0,e2,e4,e5,P,Q];refine⟨_,fun _=>(lI ⟨0,κ,0,0,0,o0⟩).qn,?_⟩;simp only[go_sem,e0,e2,e4,e5,P,Q];refine aA (fun _=>?_) (fun hb=>?_)
  ·simp only[go_sem,e0,e2,e4,e5,P,Q];refine bF P ⟨Nat.zero_lt_one,rfl,Nat.le_of_ble_eq_true rfl⟩ fun G P1 F=>?_
   simp only[go_sem,e2,P1];exact .refl _
  ·rw[Xaq,Xaq]at hb;obtain⟨⟨b1,b2⟩,b3⟩:=hb;have b1:κ≠0:=fun e=>by rw[e]at b1;exact absurd b1 (by decide)
   obtain⟨h3,h4⟩:=hq3 (by simpa using b2);have b3:ns.length=(gC ⟨0,κ,0,0,0,o0⟩).length:=by
    have:((ns.length:Nat):Int)=((gC ⟨0,κ,0,0,0,o0⟩).length:Nat):=by simpa using b3
    omega
   refine absurd ?_ h;rw[hw b1,h3];have:κ=2∨κ=3∨κ=4∨κ=5:=by omega
   rcases this with rfl|rfl|rfl|rfl
   ·match ns,b3 with
    | [a,b],_=>exact⟨2,_,_,.inr (.inl ⟨rfl,a,b,h4 _ (by simp),h4 _ (by simp),rfl,rfl⟩),rfl⟩
   ·match ns,b3 with
    | [a,b,c,d],_=>exact⟨3,_,_,.inr (.inr (.inl ⟨rfl,a,b,c,d,h4 _ (by simp),h4 _ (by simp),h4 _ (by simp),h4 _ (by simp),rfl,rfl⟩)),rfl⟩
   ·match ns,b3 with
    | [a,b],_=>exact⟨4,_,_,.inr (.inr (.inr (.inl ⟨rfl,a,b,h4 _ (by simp),h4 _ (by simp),rfl,rfl⟩))),rfl⟩
   ·match ns,b3 with
    | [a,b,c],_=>exact⟨5,_,_,.inr (.inr (.inr (.inr ⟨rfl,a,b,c,h4 _ (by simp),h4 _ (by simp),h4 _ (by simp),rfl,rfl⟩))),rfl⟩
end Sp
namespace Sp
open Go.Proofs.Tryz
open Go.Proofs.YthbiheckeoknlaaGreatDoor
open Go.Proofs.YthbiheckeoknlaaGreatDoor.Nw (ltB geB eT cB)
open Go.Proofs.YthbiheckeoknlaaGreatDoor.Sk
open Go.Proofs.YthbiheckeoknlaaGreatDoor.Sc hiding aW
def M1(l:List ByteArray)(o:Order):Prop:=N8 l o∧dM o.name=true
abbrev hU(a:List AV):Row:=⟨64,16,[a++(aB ⟨⟨#[]⟩,[],⟨0,0,0,0⟩,⟨0,0,0,0⟩,0,0,0,0,0,false⟩).drop a.length]⟩
theorem BH{a b:List Int}(h:a.map aH=b.map aH):a=b:=wF (fun _ _=>dK) h
theorem Nb(w:ByteArray)(l':List ByteArray)(hl:l'.length≤1048575)(hs:∀p∈w::l',p.size≤1048576):UC prog 160 [.sl ((w::l').map D.bE)] fun r=>∃(o:Order) (ok:Bool),((ok=true→M1 (w::l') o)∧(ok=false→∀o,¬M1 (w::l') o))∧r=.tup [.agg (aB o),boo ok]:=by
 refine UC.body (c:=f160.body.getD .skip) (fun t=>t == 52) mixed func160 rfl (by kernel_rfl) ?_;unfold f160;simp only[Xai];simp only[go_sem];refine aL fun p G hp (P:G p=some ⟨64,16,[aB o0]⟩) N=>?_
 clear N hp;simp only[go_sem,P];have no:∀{G:aC},(∀o,¬M1 (w::l') o)→∃r,(∃(o:Order) (ok:Bool),((ok=true→M1 (w::l') o)∧(ok=false→∀o,¬M1 (w::l') o))∧r=.tup [.agg (aB o),boo ok])∧Conv G (.tup [.agg (aB o0),boo false]) r:=fun h=>⟨_,⟨o0,false,⟨(fun h=>by cases h),fun _=>h⟩,rfl⟩,.refl _⟩
 refine⟨fun _=>⟨by omega,by omega⟩,_,fun _=>(oU w (hs w (by simp))).q rfl,?_⟩;simp only[go_sem,P];refine aA (fun hb=>?_) (fun hb=>?_)
 ·simp only[go_sem,P];refine bF P ⟨Nat.zero_lt_one,rfl,Nat.le_of_ble_eq_true rfl⟩ fun G P1 F=>?_
  simp only[go_sem,P1];refine no fun o ⟨⟨h1,h2,h3,h4⟩,h5⟩=>?_
  obtain⟨e1,e2⟩:=List.cons.inj h4;rcases Bool.or_eq_true_iff.1 hb with h|h
  ·have:=of_decide_eq_true h;rw[e2]at this;simp[dU]at this;omega
  ·rw[e1,h5]at h;cases h
 rw[Xaq]at hb;have hname:dM w=true:=by simpa using hb.2
 have hl1:l'≠[]:=fun e=>by rw[e]at hb;exact absurd hb.1 (by decide)
 clear hb;simp only[go_sem,P];refine⟨⟨by omega,jA (f:=D.bE) (n:=1) (fun _=>rfl) l'⟩,(G8 l' (by omega) fun p hp=>hs p (by simp[hp])).use ?_⟩;rintro _ ⟨ns,ok,⟨hq1,hq2⟩,rfl⟩;cases ok with
 | false=>
  obtain⟨rfl,hq3⟩:=hq2 rfl;simp only[go_sem,P,Bool.not_false,Xbi,Xao,List.getD_nil];refine aA (fun _=>?_) (fun h=>absurd h (by decide));simp only[go_sem,P];refine bF P ⟨Nat.zero_lt_one,rfl,Nat.le_of_ble_eq_true rfl⟩ fun G P1 F=>?_
  simp only[go_sem,P1];refine no fun o ⟨⟨h1,h2,h3,h4⟩,h5⟩=>?_
  obtain⟨e1,e2⟩:=List.cons.inj h4;exact hq3 _ (iN h1 h2).1 e2
 | true=>
 obtain⟨r1,r2⟩:=hq1 rfl;cases ns with
 | nil=>exact absurd r1 hl1
 | cons n0 ns=>
 simp only[go_sem,P];refine⟨fun _=>⟨by omega,by omega⟩,fun _=>⟨by omega,by omega⟩,fun _=>⟨by omega,by omega⟩,aA (fun hb=>?_) (fun hb=>?_)⟩
 ·simp only[go_sem,P];refine bF P ⟨Nat.zero_lt_one,rfl,Nat.le_of_ble_eq_true rfl⟩ fun G P1 F=>?_
  simp only[go_sem,P1];refine no fun o ⟨⟨h1,h2,h3,h4⟩,h5⟩=>?_
  obtain⟨e1,e2⟩:=List.cons.inj h4;have e:=BH (r1.symm.trans e2);have hn0:n0=(o.load.length:Int):=by have:=(List.cons.inj e).1;exact this
  have hln:ns.length=o.load.length+13:=by have:=congrArg List.length e;simp[dU,fZ]at this;omega
  rw[hn0]at hb;rw[dI (by omega)]at hb;simp at hb;omega
 have hb2:¬n0<0∧¬n0>3∧((ns.length:Int)+1=n0+14):=by rw[dI (by simp only[Xaq,decide_eq_false_iff_not]at hb;omega)]at hb;simp only[Xaq,decide_eq_false_iff_not,bne_eq_false_iff_eq]at hb;omega
 clear hb;obtain⟨o,ho⟩:=NR (w:=w) (ns:=n0::ns) (hs w (by simp)) r2 rfl (by omega) (by omega) (by simp only[Xaa];omega);rw[←r1]at ho;obtain⟨ok,h3,hoff,he⟩:=ho;have hw:w=o.name:=(List.cons.inj he).1;have hN:n0::ns=dU o:=BH (r1.symm.trans (List.cons.inj he).2);have hres:M1 (w::l') o:=⟨⟨ok,h3,hoff,he⟩,by rw[←hw];exact hname⟩;clear r1 r2 hb2 he hq1 hq2 hname hl1 no hs hl;subst hw;obtain⟨name,load,pick,drop,skills,penalty,split,last,now,off⟩:=o;simp only at hoff h3;subst hoff
 match load,h3 with
 | [],_=>
  have e:dU ⟨name,[],pick,drop,skills,penalty,split,last,now,false⟩=[0,pick.place,pick.start,pick.close,pick.service,drop.place,drop.start,drop.close,drop.service,skills,penalty,split,last,now]:=rfl;rw[e]at hN;obtain⟨rfl,rfl⟩:=List.cons.inj hN;have hw1:IntKind.i64.wrap (0+1)=1:=by decide +kernel
  simp only[go_sem,P];refine⟨⟨by omega,by omega⟩,?_⟩;refine aL fun j G1 _ (J:G1 j=some (gA [])) N=>?_
  obtain⟨npj,P⟩:=N P;clear N;refine aL fun q G2 _ (Q:G2 q=some ⟨64,16,[aB o0]⟩) N=>?_
  obtain⟨npq,P⟩:=N P;obtain⟨njq,J⟩:=N J;clear N;simp only[go_sem,P,J,Q];refine bF Q ⟨Nat.zero_lt_one,rfl,Nat.le_of_ble_eq_true rfl⟩ fun G Q1 F=>?_
  replace P:=F _ _ npq P;replace J:=F _ _ njq J;replace Q:G q=some (hU [str name,.os j]):=Q1;clear Q1 F;simp only[go_sem,P,J,Q,hU,Xaz,Xav];refine bX [(0,true),(2,true),(3,true),(4,true),(5,true),(6,true),(7,true),(1,false),(8,false),(9,true),(10,false)] (by kernel_rfl) ?_;simp only[go_sem,P,J,Q,hw1];refine⟨⟨by omega,by omega⟩,by omega,mH J ⟨rfl,rfl⟩ (Kf []) (by simp) fun j' G4 A N2=>?_⟩;obtain⟨npj',P⟩:=N2 _ _ npj P;obtain⟨nqj',Q⟩:=N2 _ _ njq.symm Q;replace A:G4 j'=some (gA []):=A;clear N2 J;simp only[go_sem,P,Q,A];refine bU Cs Q ⟨Nat.zero_lt_one,rfl,Nat.le_of_ble_eq_true rfl⟩ fun G Q1 F=>?_
  replace P:=F _ _ npq P;replace A:=F _ _ nqj'.symm A;replace Q:G q=some (hU [str name,.os j']):=Q1;clear Q1 F;simp only[go_sem,P,A,Q,hw1];refine⟨⟨by omega,by omega⟩,by omega,?_⟩;refine bX [(0,true),(1,true),(2,true),(3,true),(4,true),(5,true),(6,true),(7,true),(8,true),(9,true),(10,true),(11,true),(12,true),(13,true),(14,false)] (by kernel_rfl) ?_;simp only[go_sem,P,A,Q];refine⟨⟨by omega,by omega⟩,⟨by omega,by omega⟩,⟨by omega,by omega⟩,⟨by omega,by omega⟩,?_⟩;refine bF Q ⟨Nat.zero_lt_one,rfl,Nat.le_of_ble_eq_true rfl⟩ fun G Q1 F=>?_
  replace P:=F _ _ npq P;replace A:=F _ _ nqj'.symm A;replace Q:G q=some (hU [str name,.os j',int pick.place,int pick.start,int pick.close,int pick.service]):=Q1;clear Q1 F;simp only[go_sem,P,A,Q];refine bX [(0,true),(1,true),(2,true),(3,true),(4,true),(5,true),(6,true),(7,true),(8,true),(9,true),(10,true),(11,true),(12,true),(13,true),(14,false)] (by kernel_rfl) ?_;simp only[go_sem,P,A,Q];refine⟨⟨by omega,by omega⟩,⟨by omega,by omega⟩,⟨by omega,by omega⟩,⟨by omega,by omega⟩,?_⟩;refine bF Q ⟨Nat.zero_lt_one,rfl,Nat.le_of_ble_eq_true rfl⟩ fun G Q1 F=>?_
  replace P:=F _ _ npq P;replace A:=F _ _ nqj'.symm A;replace Q:G q=some (hU [str name,.os j',int pick.place,int pick.start,int pick.close,int pick.service,int drop.place,int drop.start,int drop.close,int drop.service]):=Q1;clear Q1 F;simp only[go_sem,P,A,Q];refine⟨⟨by omega,by omega⟩,?_⟩;refine bU so3 Q ⟨Nat.zero_lt_one,rfl,Nat.le_of_ble_eq_true rfl⟩ fun G Q1 F=>?_
  replace P:=F _ _ npq P;replace A:=F _ _ nqj'.symm A;replace Q:G q=some (hU [str name,.os j',int pick.place,int pick.start,int pick.close,int pick.service,int drop.place,int drop.start,int drop.close,int drop.service,int skills]):=Q1;clear Q1 F;simp only[go_sem,P,A,Q];refine⟨⟨by omega,by omega⟩,?_⟩;refine bU so3 Q ⟨Nat.zero_lt_one,rfl,Nat.le_of_ble_eq_true rfl⟩ fun G Q1 F=>?_
  replace P:=F _ _ npq P;replace A:=F _ _ nqj'.symm A;replace Q:G q=some (hU [str name,.os j',int pick.place,int pick.start,int pick.close,int pick.service,int drop.place,int drop.start,int drop.close,int drop.service,int skills,int penalty]):=Q1;clear Q1 F;simp only[go_sem,P,A,Q];refine⟨⟨by omega,by omega⟩,?_⟩;refine bU so3 Q ⟨Nat.zero_lt_one,rfl,Nat.le_of_ble_eq_true rfl⟩ fun G Q1 F=>?_
  replace P:=F _ _ npq P;replace A:=F _ _ nqj'.symm A;replace Q:G q=some (hU [str name,.os j',int pick.place,int pick.start,int pick.close,int pick.service,int drop.place,int drop.start,int drop.close,int drop.service,int skills,int penalty,int split]):=Q1;clear Q1 F;simp only[go_sem,P,A,Q];refine⟨⟨by omega,by omega⟩,?_⟩;refine bU so3 Q ⟨Nat.zero_lt_one,rfl,Nat.le_of_ble_eq_true rfl⟩ fun G Q1 F=>?_
  replace P:=F _ _ npq P;replace A:=F _ _ nqj'.symm A;replace Q:G q=some (hU [str name,.os j',int pick.place,int pick.start,int pick.close,int pick.service,int drop.place,int drop.start,int drop.close,int drop.service,int skills,int penalty,int split,int last]):=Q1;clear Q1 F;simp only[go_sem,P,A,Q];refine⟨⟨by omega,by omega⟩,?_⟩;refine bU so3 Q ⟨Nat.zero_lt_one,rfl,Nat.le_of_ble_eq_true rfl⟩ fun G Q1 F=>?_
  replace P:=F _ _ npq P;replace A:=F _ _ nqj'.symm A;replace Q:G q=some (hU [str name,.os j',int pick.place,int pick.start,int pick.close,int pick.service,int drop.place,int drop.start,int drop.close,int drop.service,int skills,int penalty,int split,int last,int now]):=Q1;clear Q1 F;simp only[go_sem,P,A,Q];refine bF P ⟨Nat.zero_lt_one,rfl,Nat.le_of_ble_eq_true rfl⟩ fun G P1 F=>?_
  replace A:=F _ _ npj'.symm A;simp only[go_sem,P1];exact⟨_,⟨⟨name,[],pick,drop,skills,penalty,split,last,now,false⟩,true,⟨fun _=>hres,(fun h=>by cases h)⟩,rfl⟩,.tup _ _ (.cons _ _ _ _ (.agg _ _ (.cons _ _ _ _ (.refl _) (.cons _ _ _ _ (.row _ _ _ A (ConvE.refl _)) (ConvL.refl _)))) (.cons _ _ _ _ (.refl _) .nil))⟩
 | [a],_=>
  have e:dU ⟨name,[a],pick,drop,skills,penalty,split,last,now,false⟩=[1,a,pick.place,pick.start,pick.close,pick.service,drop.place,drop.start,drop.close,drop.service,skills,penalty,split,last,now]:=rfl;rw[e]at hN;obtain⟨rfl,rfl⟩:=List.cons.inj hN;have hw1:IntKind.i64.wrap (1+1)=2:=by decide +kernel
  simp only[go_sem,P];refine⟨⟨by omega,by omega⟩,?_⟩;refine aL fun j G1 _ (J:G1 j=some (gA [])) N=>?_
  obtain⟨npj,P⟩:=N P;clear N;refine aL fun q G2 _ (Q:G2 q=some ⟨64,16,[aB o0]⟩) N=>?_
  obtain⟨npq,P⟩:=N P;obtain⟨njq,J⟩:=N J;clear N;simp only[go_sem,P,J,Q];refine bF Q ⟨Nat.zero_lt_one,rfl,Nat.le_of_ble_eq_true rfl⟩ fun G Q1 F=>?_
  replace P:=F _ _ npq P;replace J:=F _ _ njq J;replace Q:G q=some (hU [str name,.os j]):=Q1;clear Q1 F;simp only[go_sem,P,J,Q,hU,Xaz,Xav];refine bX [(0,true),(2,true),(3,true),(4,true),(5,true),(6,true),(7,true),(1,false),(8,false),(9,true),(10,false)] (by kernel_rfl) ?_;simp only[go_sem,P,J,Q,hw1];refine⟨⟨by omega,by omega⟩,by omega,mH J ⟨rfl,rfl⟩ (Kf [a]) (by simp) fun j' G4 A N2=>?_⟩;obtain⟨npj',P⟩:=N2 _ _ npj P;obtain⟨nqj',Q⟩:=N2 _ _ njq.symm Q;replace A:G4 j'=some (gA [a]):=A;clear N2 J;simp only[go_sem,P,Q,A];refine bU Cs Q ⟨Nat.zero_lt_one,rfl,Nat.le_of_ble_eq_true rfl⟩ fun G Q1 F=>?_
  replace P:=F _ _ npq P;replace A:=F _ _ nqj'.symm A;replace Q:G q=some (hU [str name,.os j']):=Q1;clear Q1 F;simp only[go_sem,P,A,Q,hw1];refine⟨⟨by omega,by omega⟩,by omega,?_⟩;refine bX [(0,true),(1,true),(2,true),(3,true),(4,true),(5,true),(6,true),(7,true),(8,true),(9,true),(10,true),(11,true),(12,true),(13,true),(14,false)] (by kernel_rfl) ?_;simp only[go_sem,P,A,Q];refine⟨⟨by omega,by omega⟩,⟨by omega,by omega⟩,⟨by omega,by omega⟩,⟨by omega,by omega⟩,?_⟩;refine bF Q ⟨Nat.zero_lt_one,rfl,Nat.le_of_ble_eq_true rfl⟩ fun G Q1 F=>?_
  replace P:=F _ _ npq P;replace A:=F _ _ nqj'.symm A;replace Q:G q=some (hU [str name,.os j',int pick.place,int pick.start,int pick.close,int pick.service]):=Q1;clear Q1 F;simp only[go_sem,P,A,Q];refine bX [(0,true),(1,true),(2,true),(3,true),(4,true),(5,true),(6,true),(7,true),(8,true),(9,true),(10,true),(11,true),(12,true),(13,true),(14,false)] (by kernel_rfl) ?_;simp only[go_sem,P,A,Q];refine⟨⟨by omega,by omega⟩,⟨by omega,by omega⟩,⟨by omega,by omega⟩,⟨by omega,by omega⟩,?_⟩;refine bF Q ⟨Nat.zero_lt_one,rfl,Nat.le_of_ble_eq_true rfl⟩ fun G Q1 F=>?_
  replace P:=F _ _ npq P;replace A:=F _ _ nqj'.symm A;replace Q:G q=some (hU [str name,.os j',int pick.place,int pick.start,int pick.close,int pick.service,int drop.place,int drop.start,int drop.close,int drop.service]):=Q1;clear Q1 F;simp only[go_sem,P,A,Q];refine⟨⟨by omega,by omega⟩,?_⟩;refine bU so3 Q ⟨Nat.zero_lt_one,rfl,Nat.le_of_ble_eq_true rfl⟩ fun G Q1 F=>?_
  replace P:=F _ _ npq P;replace A:=F _ _ nqj'.symm A;replace Q:G q=some (hU [str name,.os j',int pick.place,int pick.start,int pick.close,int pick.service,int drop.place,int drop.start,int drop.close,int drop.service,int skills]):=Q1;clear Q1 F;simp only[go_sem,P,A,Q];refine⟨⟨by omega,by omega⟩,?_⟩;refine bU so3 Q ⟨Nat.zero_lt_one,rfl,Nat.le_of_ble_eq_true rfl⟩ fun G Q1 F=>?_
  replace P:=F _ _ npq P;replace A:=F _ _ nqj'.symm A;replace Q:G q=some (hU [str name,.os j',int pick.place,int pick.start,int pick.close,int pick.service,int drop.place,int drop.start,int drop.close,int drop.service,int skills,int penalty]):=Q1;clear Q1 F;simp only[go_sem,P,A,Q];refine⟨⟨by omega,by omega⟩,?_⟩;refine bU so3 Q ⟨Nat.zero_lt_one,rfl,Nat.le_of_ble_eq_true rfl⟩ fun G Q1 F=>?_
  replace P:=F _ _ npq P;replace A:=F _ _ nqj'.symm A;replace Q:G q=some (hU [str name,.os j',int pick.place,int pick.start,int pick.close,int pick.service,int drop.place,int drop.start,int drop.close,int drop.service,int skills,int penalty,int split]):=Q1;clear Q1 F;simp only[go_sem,P,A,Q];refine⟨⟨by omega,by omega⟩,?_⟩;refine bU so3 Q ⟨Nat.zero_lt_one,rfl,Nat.le_of_ble_eq_true rfl⟩ fun G Q1 F=>?_
  replace P:=F _ _ npq P;replace A:=F _ _ nqj'.symm A;replace Q:G q=some (hU [str name,.os j',int pick.place,int pick.start,int pick.close,int pick.service,int drop.place,int drop.start,int drop.close,int drop.service,int skills,int penalty,int split,int last]):=Q1;clear Q1 F;simp only[go_sem,P,A,Q];refine⟨⟨by omega,by omega⟩,?_⟩;refine bU so3 Q ⟨Nat.zero_lt_one,rfl,Nat.le_of_ble_eq_true rfl⟩ fun G Q1 F=>?_
  replace P:=F _ _ npq P;replace A:=F _ _ nqj'.symm A;replace Q:G q=some (hU [str name,.os j',int pick.place,int pick.start,int pick.close,int pick.service,int drop.place,int drop.start,int drop.close,int drop.service,int skills,int penalty,int split,int last,int now]):=Q1;clear Q1 F;simp only[go_sem,P,A,Q];refine bF P ⟨Nat.zero_lt_one,rfl,Nat.le_of_ble_eq_true rfl⟩ fun G P1 F=>?_
  replace A:=F _ _ npj'.symm A;simp only[go_sem,P1];exact⟨_,⟨⟨name,[a],pick,drop,skills,penalty,split,last,now,false⟩,true,⟨fun _=>hres,(fun h=>by cases h)⟩,rfl⟩,.tup _ _ (.cons _ _ _ _ (.agg _ _ (.cons _ _ _ _ (.refl _) (.cons _ _ _ _ (.row _ _ _ A (ConvE.refl _)) (ConvL.refl _)))) (.cons _ _ _ _ (.refl _) .nil))⟩
 | [a,b],_=>
  have e:dU ⟨name,[a,b],pick,drop,skills,penalty,split,last,now,false⟩=[2,a,b,pick.place,pick.start,pick.close,pick.service,drop.place,drop.start,drop.close,drop.service,skills,penalty,split,last,now]:=rfl;rw[e]at hN;obtain⟨rfl,rfl⟩:=List.cons.inj hN;have hw1:IntKind.i64.wrap (2+1)=3:=by decide +kernel
  simp only[go_sem,P];refine⟨⟨by omega,by omega⟩,?_⟩;refine aL fun j G1 _ (J:G1 j=some (gA [])) N=>?_
  obtain⟨npj,P⟩:=N P;clear N;refine aL fun q G2 _ (Q:G2 q=some ⟨64,16,[aB o0]⟩) N=>?_
  obtain⟨npq,P⟩:=N P;obtain⟨njq,J⟩:=N J;clear N;simp only[go_sem,P,J,Q];refine bF Q ⟨Nat.zero_lt_one,rfl,Nat.le_of_ble_eq_true rfl⟩ fun G Q1 F=>?_
  replace P:=F _ _ npq P;replace J:=F _ _ njq J;replace Q:G q=some (hU [str name,.os j]):=Q1;clear Q1 F;simp only[go_sem,P,J,Q,hU,Xaz,Xav];refine bX [(0,true),(2,true),(3,true),(4,true),(5,true),(6,true),(7,true),(1,false),(8,false),(9,true),(10,false)] (by kernel_rfl) ?_;simp only[go_sem,P,J,Q,hw1];refine⟨⟨by omega,by omega⟩,by omega,mH J ⟨rfl,rfl⟩ (Kf [a,b]) (by simp) fun j' G4 A N2=>?_⟩;obtain⟨npj',P⟩:=N2 _ _ npj P;obtain⟨nqj',Q⟩:=N2 _ _ njq.symm Q;replace A:G4 j'=some (gA [a,b]):=A;clear N2 J;simp only[go_sem,P,Q,A];refine bU Cs Q ⟨Nat.zero_lt_one,rfl,Nat.le_of_ble_eq_true rfl⟩ fun G Q1 F=>?_
  replace P:=F _ _ npq P;replace A:=F _ _ nqj'.symm A;replace Q:G q=some (hU [str name,.os j']):=Q1;clear Q1 F;simp only[go_sem,P,A,Q,hw1];refine⟨⟨by omega,by omega⟩,by omega,?_⟩;refine bX [(0,true),(1,true),(2,true),(3,true),(4,true),(5,true),(6,true),(7,true),(8,true),(9,true),(10,true),(11,true),(12,true),(13,true),(14,false)] (by kernel_rfl) ?_;simp only[go_sem,P,A,Q];refine⟨⟨by omega,by omega⟩,⟨by omega,by omega⟩,⟨by omega,by omega⟩,⟨by omega,by omega⟩,?_⟩;refine bF Q ⟨Nat.zero_lt_one,rfl,Nat.le_of_ble_eq_true rfl⟩ fun G Q1 F=>?_
  replace P:=F _ _ npq P;replace A:=F _ _ nqj'.symm A;replace Q:G q=some (hU [str name,.os j',int pick.place,int pick.start,int pick.close,int pick.service]):=Q1;clear Q1 F;simp only[go_sem,P,A,Q];refine bX [(0,true),(1,true),(2,true),(3,true),(4,true),(5,true),(6,true),(7,true),(8,true),(9,true),(10,true),(11,true),(12,true),(13,true),(14,false)] (by kernel_rfl) ?_;simp only[go_sem,P,A,Q];refine⟨⟨by omega,by omega⟩,⟨by omega,by omega⟩,⟨by omega,by omega⟩,⟨by omega,by omega⟩,?_⟩;refine bF Q ⟨Nat.zero_lt_one,rfl,Nat.le_of_ble_eq_true rfl⟩ fun G Q1 F=>?_
  replace P:=F _ _ npq P;replace A:=F _ _ nqj'.symm A;replace Q:G q=some (hU [str name,.os j',int pick.place,int pick.start,int pick.close,int pick.service,int drop.place,int drop.start,int drop.close,int drop.service]):=Q1;clear Q1 F;simp only[go_sem,P,A,Q];refine⟨⟨by omega,by omega⟩,?_⟩;refine bU so3 Q ⟨Nat.zero_lt_one,rfl,Nat.le_of_ble_eq_true rfl⟩ fun G Q1 F=>?_
  replace P:=F _ _ npq P;replace A:=F _ _ nqj'.symm A;replace Q:G q=some (hU [str name,.os j',int pick.place,int pick.start,int pick.close,int pick.service,int drop.place,int drop.start,int drop.close,int drop.service,int skills]):=Q1;clear Q1 F;simp only[go_sem,P,A,Q];refine⟨⟨by omega,by omega⟩,?_⟩;refine bU so3 Q ⟨Nat.zero_lt_one,rfl,Nat.le_of_ble_eq_true rfl⟩ fun G Q1 F=>?_
  replace P:=F _ _ npq P;replace A:=F _ _ nqj'.symm A;replace Q:G q=some (hU [str name,.os j',int pick.place,int pick.start,int pick.close,int pick.service,int drop.place,int drop.start,int drop.close,int drop.service,int skills,int penalty]):=Q1;clear Q1 F;simp only[go_sem,P,A,Q];refine⟨⟨by omega,by omega⟩,?_⟩;refine bU so3 Q ⟨Nat.zero_lt_one,rfl,Nat.le_of_ble_eq_true rfl⟩ fun G Q1 F=>?_
  replace P:=F _ _ npq P;replace A:=F _ _ nqj'.symm A;replace Q:G q=some (hU [str name,.os j',int pick.place,int pick.start,int pick.close,int pick.service,int drop.place,int drop.start,int drop.close,int drop.service,int skills,int penalty,int split]):=Q1;clear Q1 F;simp only[go_sem,P,A,Q];refine⟨⟨by omega,by omega⟩,?_⟩;refine bU so3 Q ⟨Nat.zero_lt_one,rfl,Nat.le_of_ble_eq_true rfl⟩ fun G Q1 F=>?_
  replace P:=F _ _ npq P;replace A:=F _ _ nqj'.symm A;replace Q:G q=some (hU [str name,.os j',int pick.place,int pick.start,int pick.close,int pick.service,int drop.place,int drop.start,int drop.close,int drop.service,int skills,int penalty,int split,int last]):=Q1;clear Q1 F;simp only[go_sem,P,A,Q];refine⟨⟨by omega,by omega⟩,?_⟩;refine bU so3 Q ⟨Nat.zero_lt_one,rfl,Nat.le_of_ble_eq_true rfl⟩ fun G Q1 F=>?_
  replace P:=F _ _ npq P;replace A:=F _ _ nqj'.symm A;replace Q:G q=some (hU [str name,.os j',int pick.place,int pick.start,int pick.close,int pick.service,int drop.place,int drop.start,int drop.close,int drop.service,int skills,int penalty,int split,int last,int now]):=Q1;clear Q1 F;simp only[go_sem,P,A,Q];refine bF P ⟨Nat.zero_lt_one,rfl,Nat.le_of_ble_eq_true rfl⟩ fun G P1 F=>?_
  replace A:=F _ _ npj'.symm A;simp only[go_sem,P1];exact⟨_,⟨⟨name,[a,b],pick,drop,skills,penalty,split,last,now,false⟩,true,⟨fun _=>hres,(fun h=>by cases h)⟩,rfl⟩,.tup _ _ (.cons _ _ _ _ (.agg _ _ (.cons _ _ _ _ (.refl _) (.cons _ _ _ _ (.row _ _ _ A (ConvE.refl _)) (ConvL.refl _)))) (.cons _ _ _ _ (.refl _) .nil))⟩
 | [a,b,c],_=>
  have e:dU ⟨name,[a,b,c],pick,drop,skills,penalty,split,last,now,false⟩=[3,a,b,c,pick.place,pick.start,pick.close,pick.service,drop.place,drop.start,drop.close,drop.service,skills,penalty,split,last,now]:=rfl;rw[e]at hN;obtain⟨rfl,rfl⟩:=List.cons.inj hN;have hw1:IntKind.i64.wrap (3+1)=4:=by decide +kernel
  simp only[go_sem,P];refine⟨⟨by omega,by omega⟩,?_⟩;refine aL fun j G1 _ (J:G1 j=some (gA [])) N=>?_
  obtain⟨npj,P⟩:=N P;clear N;refine aL fun q G2 _ (Q:G2 q=some ⟨64,16,[aB o0]⟩) N=>?_
  obtain⟨npq,P⟩:=N P;obtain⟨njq,J⟩:=N J;clear N;simp only[go_sem,P,J,Q];refine bF Q ⟨Nat.zero_lt_one,rfl,Nat.le_of_ble_eq_true rfl⟩ fun G Q1 F=>?_
  replace P:=F _ _ npq P;replace J:=F _ _ njq J;replace Q:G q=some (hU [str name,.os j]):=Q1;clear Q1 F;simp only[go_sem,P,J,Q,hU,Xaz,Xav];refine bX [(0,true),(2,true),(3,true),(4,true),(5,true),(6,true),(7,true),(1,false),(8,false),(9,true),(10,false)] (by kernel_rfl) ?_;simp only[go_sem,P,J,Q,hw1];refine⟨⟨by omega,by omega⟩,by omega,mH J ⟨rfl,rfl⟩ (Kf [a,b,c]) (by simp) fun j' G4 A N2=>?_⟩;obtain⟨npj',P⟩:=N2 _ _ npj P;obtain⟨nqj',Q⟩:=N2 _ _ njq.symm Q;replace A:G4 j'=some (gA [a,b,c]):=A;clear N2 J;simp only[go_sem,P,Q,A];refine bU Cs Q ⟨Nat.zero_lt_one,rfl,Nat.le_of_ble_eq_true rfl⟩ fun G Q1 F=>?_
  replace P:=F _ _ npq P;replace A:=F _ _ nqj'.symm A;replace Q:G q=some (hU [str name,.os j']):=Q1;clear Q1 F;simp only[go_sem,P,A,Q,hw1];refine⟨⟨by omega,by omega⟩,by omega,?_⟩;refine bX [(0,true),(1,true),(2,true),(3,true),(4,true),(5,true),(6,true),(7,true),(8,true),(9,true),(10,true),(11,true),(12,true),(13,true),(14,false)] (by kernel_rfl) ?_;simp only[go_sem,P,A,Q];refine⟨⟨by omega,by omega⟩,⟨by omega,by omega⟩,⟨by omega,by omega⟩,⟨by omega,by omega⟩,?_⟩;refine bF Q ⟨Nat.zero_lt_one,rfl,Nat.le_of_ble_eq_true rfl⟩ fun G Q1 F=>?_
  replace P:=F _ _ npq P;replace A:=F _ _ nqj'.symm A;replace Q:G q=some (hU [str name,.os j',int pick.place,int pick.start,int pick.close,int pick.service]):=Q1;clear Q1 F;simp only[go_sem,P,A,Q];refine bX [(0,true),(1,true),(2,true),(3,true),(4,true),(5,true),(6,true),(7,true),(8,true),(9,true),(10,true),(11,true),(12,true),(13,true),(14,false)] (by kernel_rfl) ?_;simp only[go_sem,P,A,Q];refine⟨⟨by omega,by omega⟩,⟨by omega,by omega⟩,⟨by omega,by omega⟩,⟨by omega,by omega⟩,?_⟩;refine bF Q ⟨Nat.zero_lt_one,rfl,Nat.le_of_ble_eq_true rfl⟩ fun G Q1 F=>?_
  replace P:=F _ _ npq P;replace A:=F _ _ nqj'.symm A;replace Q:G q=some (hU [str name,.os j',int pick.place,int pick.start,int pick.close,int pick.service,int drop.place,int drop.start,int drop.close,int drop.service]):=Q1;clear Q1 F;simp only[go_sem,P,A,Q];refine⟨⟨by omega,by omega⟩,?_⟩;refine bU so3 Q ⟨Nat.zero_lt_one,rfl,Nat.le_of_ble_eq_true rfl⟩ fun G Q1 F=>?_
  replace P:=F _ _ npq P;replace A:=F _ _ nqj'.symm A;replace Q:G q=some (hU [str name,.os j',int pick.place,int pick.start,int pick.close,int pick.service,int drop.place,int drop.start,int drop.close,int drop.service,int skills]):=Q1;clear Q1 F;simp only[go_sem,P,A,Q];refine⟨⟨by omega,by omega⟩,?_⟩;refine bU so3 Q ⟨Nat.zero_lt_one,rfl,Nat.le_of_ble_eq_true rfl⟩ fun G Q1 F=>?_
  replace P:=F _ _ npq P;replace A:=F _ _ nqj'.symm A;replace Q:G q=some (hU [str name,.os j',int pick.place,int pick.start,int pick.close,int pick.service,int drop.place,int drop.start,int drop.close,int drop.service,int skills,int penalty]):=Q1;clear Q1 F;simp only[go_sem,P,A,Q];refine⟨⟨by omega,by omega⟩,?_⟩;refine bU so3 Q ⟨Nat.zero_lt_one,rfl,Nat.le_of_ble_eq_true rfl⟩ fun G Q1 F=>?_
  replace P:=F _ _ npq P;replace A:=F _ _ nqj'.symm A;replace Q:G q=some (hU [str name,.os j',int pick.place,int pick.start,int pick.close,int pick.service,int drop.place,int drop.start,int drop.close,int drop.service,int skills,int penalty,int split]):=Q1;clear Q1 F;simp only[go_sem,P,A,Q];refine⟨⟨by omega,by omega⟩,?_⟩;refine bU so3 Q ⟨Nat.zero_lt_one,rfl,Nat.le_of_ble_eq_true rfl⟩ fun G Q1 F=>?_
  replace P:=F _ _ npq P;replace A:=F _ _ nqj'.symm A;replace Q:G q=some (hU [str name,.os j',int pick.place,int pick.start,int pick.close,int pick.service,int drop.place,int drop.start,int drop.close,int drop.service,int skills,int penalty,int split,int last]):=Q1;clear Q1 F;simp only[go_sem,P,A,Q];refine⟨⟨by omega,by omega⟩,?_⟩;refine bU so3 Q ⟨Nat.zero_lt_one,rfl,Nat.le_of_ble_eq_true rfl⟩ fun G Q1 F=>?_
  replace P:=F _ _ npq P;replace A:=F _ _ nqj'.symm A;replace Q:G q=some (hU [str name,.os j',int pick.place,int pick.start,int pick.close,int pick.service,int drop.place,int drop.start,int drop.close,int drop.service,int skills,int penalty,int split,int last,int now]):=Q1;clear Q1 F;simp only[go_sem,P,A,Q];refine bF P ⟨Nat.zero_lt_one,rfl,Nat.le_of_ble_eq_true rfl⟩ fun G P1 F=>?_
  replace A:=F _ _ npj'.symm A;simp only[go_sem,P1];exact⟨_,⟨⟨name,[a,b,c],pick,drop,skills,penalty,split,last,now,false⟩,true,⟨fun _=>hres,(fun h=>by cases h)⟩,rfl⟩,.tup _ _ (.cons _ _ _ _ (.agg _ _ (.cons _ _ _ _ (.refl _) (.cons _ _ _ _ (.row _ _ _ A (ConvE.refl _)) (ConvL.refl _)))) (.cons _ _ _ _ (.refl _) .nil))⟩
end Sp
namespace Sk
open Go.Proofs.Tryz
open Go.Proofs.YthbiheckeoknlaaGreatDoor
open Go.Proofs.YthbiheckeoknlaaGreatDoor.Nw (ltB geB cB)
open Go.Proofs.YthbiheckeoknlaaGreatDoor.Sc hiding aW
theorem tX:∀k<6,0<k→aW (Sc.aW (k:Nat))=true:=by decide +kernel
theorem RL{e:D.Event}(h:OkE e)(h0:(evR e).2=0):∃(kind:Nat) (ws:List ByteArray),PE kind ws e∧(evR e).1=aG spB (Sc.aW (kind:Nat)::ws)∧∀w∈ws,aW w=true:=by
 obtain⟨t,kind,a,b,n,o⟩:=e;unfold evR at h0 ⊢;simp only at h0 ⊢;by_cases hk:kind<1∨5<kind
 ·rw[if_pos hk]at h0;cases h0
 rw[if_neg hk]at h0 ⊢;by_cases hc:iQ ⟨t,kind,a,b,n,o⟩=false
 ·rw[if_pos hc]at h0;cases h0
 rw[if_neg hc]at h0 ⊢;have hc:iQ ⟨t,kind,a,b,n,o⟩=true:=by simpa using hc
 unfold iQ at hc;simp only at hc;have hd:∀l:List Int,∀w∈l.map aH,aW w=true:=fun l w hw=>by obtain⟨n,_,rfl⟩:=Xat.1 hw;exact eI n
 have hk5:kind=1∨kind=2∨kind=3∨kind=4∨kind=5:=by omega
 rcases hk5 with rfl|rfl|rfl|rfl|rfl
 ·rw[if_pos rfl]at hc h0 ⊢;simp only[Xag,Xan]at hc;obtain⟨⟨rfl,rfl⟩,rfl⟩:=hc;by_cases h1:o.off=true
  ·rw[if_pos h1]at h0;cases h0
  rw[if_neg h1]at h0 ⊢;by_cases h2:dM o.name=false
  ·rw[if_pos h2]at h0;cases h0
  rw[if_neg h2]at h0 ⊢;by_cases h3:3<o.load.length
  ·rw[if_pos h3]at h0;cases h0
  rw[if_neg h3];refine⟨1,aH t::o.name::(dU o).map aH,.inl ⟨rfl,t,o,h.at_,h.order,by omega,by simpa using h1,rfl,rfl⟩,rfl,fun w hw=>?_⟩;rcases Xaf.1 hw with rfl|hw
  ·exact eI t
  rcases Xaf.1 hw with rfl|hw
  ·exact CO (by simpa using h2)
  ·exact hd _ w hw
 ·rw[if_neg (by decide),if_neg (by decide),if_neg (by decide)]at hc;simp only[Xag,Xan]at hc;obtain⟨⟨rfl,rfl⟩,hz⟩:=hc;rw[wV hz]at *;exact⟨2,_,.inr (.inl ⟨rfl,t,a,h.at_,h.a,rfl,rfl⟩),rfl,hd [t,a]⟩
 ·rw[if_neg (by decide),if_pos rfl]at hc;rw[wV hc]at *;exact⟨3,_,.inr (.inr (.inl ⟨rfl,t,a,b,n,h.at_,h.a,h.b,h.n,rfl,rfl⟩)),rfl,hd [t,a,b,n]⟩
 ·rw[if_neg (by decide),if_neg (by decide),if_neg (by decide)]at hc;simp only[Xag,Xan]at hc;obtain⟨⟨rfl,rfl⟩,hz⟩:=hc;rw[wV hz]at *;exact⟨4,_,.inr (.inr (.inr (.inl ⟨rfl,t,a,h.at_,h.a,rfl,rfl⟩))),rfl,hd [t,a]⟩
 ·rw[if_neg (by decide),if_neg (by decide),if_pos rfl]at hc;simp only[Xag,Xan]at hc;obtain⟨rfl,hz⟩:=hc;rw[wV hz]at *;exact⟨5,_,.inr (.inr (.inr (.inr ⟨rfl,t,a,n,h.at_,h.a,h.n,rfl,rfl⟩))),rfl,hd [t,a,n]⟩
theorem GR(e:D.Event)(h:OkE e)(h0:(evR e).2=0)(hs:(evR e).1.size≤65536):PC prog 36 [str (evR e).1] (.tup [.agg (bC e),int 0]):=by
 obtain⟨kind,ws,hp,hj,hw⟩:=RL h h0;obtain⟨hk0,hk6,hpos,hl⟩:=hp.pos;have hpr:=Hv e h;rw[h0]at hpr;have hwc:=Am (Sc.aW (kind:Nat)::ws) (by simp) (fun w hm=>by
  rcases Xaf.1 hm with rfl|hm
  ·exact tX kind hk6 hk0
  ·exact hw w hm) (by rw[←hj];omega) (by simp only[Xaa];omega)
 rw[←hj]at hwc;generalize (evR e).1=s at *;refine pcd func36 rfl rfl ?_;simp only[go_sem];refine aL fun p G hp0 (P:G p=some (eM 0 0 0 0 0 o0)) N=>?_
 clear N hp0;simp only[go_sem,P];refine aA (fun hb=>absurd (of_decide_eq_true hb) (by omega)) (fun _=>?_);simp only[go_sem,P];refine bB hwc ?_;simp only[go_sem,P];refine aA (fun hb=>absurd hb (by decide)) (fun _=>?_);simp only[go_sem,P];refine bB (L6 hp) ?_;simp only[go_sem,P];refine aL fun q G hq0 (Q:G q=some (eM 0 0 0 0 0 o0)) N=>?_
 obtain⟨npq,P⟩:=N P;clear N hq0;simp only[go_sem,P,Q];refine bF Q ⟨Nat.zero_lt_one,rfl,Nat.le_of_ble_eq_true rfl⟩ fun G Q1 F=>?_
 replace P:=F _ _ npq P;replace Q:G q=some ⟨66,21,[bC e]⟩:=Q1;clear F Q1;simp only[go_sem,P,Q];refine aA (fun hb=>absurd hb (by decide)) (fun _=>?_);simp only[go_sem,P,Q];refine bB hpr ?_;simp only[go_sem,P,Q];refine aA (fun hb=>absurd hb (by simp)) (fun _=>?_);simp only[go_sem,P,Q];refine bF P ⟨Nat.zero_lt_one,rfl,Nat.le_of_ble_eq_true rfl⟩ fun G P1 F=>?_
 simp only[go_sem,P1];exact .refl _
end Sk
namespace Sp
open Go.Proofs.Tryz
open Go.Proofs.YthbiheckeoknlaaGreatDoor
open Go.Proofs.YthbiheckeoknlaaGreatDoor.Nw (ltB geB cB)
open Go.Proofs.YthbiheckeoknlaaGreatDoor.Sk
open Go.Proofs.YthbiheckeoknlaaGreatDoor.Sc
def EvT(s:ByteArray)(e:D.Event):Prop:=OkE e∧(evR e).2=0∧s=(evR e).1
theorem RN{kind:Nat}{ws:List ByteArray}{e:D.Event}(h:PE kind ws e):OkE e:=by
 have z:bH 0:=by simp[bH]
 have zo:OkOrder o0:=⟨by decide,by decide,by simp[o0],⟨z,z,z,z⟩,⟨z,z,z,z⟩,z,z,z,z,z⟩;rcases h with⟨rfl,t,o,h1,h2,_,_,_,rfl⟩|⟨rfl,t,a,h1,h2,_,rfl⟩|⟨rfl,t,a,b,n,h1,h2,h3,h4,_,rfl⟩|⟨rfl,t,a,h1,h2,_,rfl⟩|⟨rfl,t,a,n,h1,h2,h3,_,rfl⟩
 ·exact⟨h1,z,z,z,h2⟩
 ·exact⟨h1,h2,z,z,zo⟩
 ·exact⟨h1,h2,h3,h4,zo⟩
 ·exact⟨h1,h2,z,z,zo⟩
 ·exact⟨h1,h2,z,h3,zo⟩
theorem Pv(s:ByteArray)(hs:s.size≤65536):∃(e:D.Event) (er:Int),PC prog 36 [str s] (.tup [.agg (bC e),int er])∧((er=0∧EvT s e)∨(er=3∧∀e,¬EvT s e)):=by
 by_cases h:∃e,EvT s e
 ·obtain⟨e,h1,h2,rfl⟩:=h;exact⟨e,0,GR e h1 h2 hs,.inl ⟨rfl,h1,h2,rfl⟩⟩
 refine⟨⟨0,0,0,0,0,o0⟩,3,?_,.inr ⟨rfl,fun e he=>h ⟨e,he⟩⟩⟩;refine pcd func36 rfl rfl ?_;simp only[go_sem];refine aL fun p G hp0 (P:G p=some (eM 0 0 0 0 0 o0)) N=>?_
 clear N hp0;simp only[go_sem,P];refine aA (fun hb=>absurd (of_decide_eq_true hb) (by omega)) (fun _=>?_);simp only[go_sem,P];refine(Et s (by omega)).use ?_;rintro _ ⟨l,e,⟨_,_,_,q4⟩,rfl⟩;simp only[go_sem,P];refine aA (fun _=>?_) (fun he=>?_)
 ·simp only[go_sem,P];refine bF P ⟨Nat.zero_lt_one,rfl,Nat.le_of_ble_eq_true rfl⟩ fun G P1 F=>?_
  simp only[go_sem,P1];exact .refl _
 have he:e=0:=by simpa using he
 obtain⟨q5,q6⟩:=q4 he;obtain⟨ev,ok,hc,hq⟩:=P9 l (by omega) fun p hp=>by have:=q6 p hp;omega
 simp only[go_sem,P];refine bB hc ?_;simp only[go_sem,P];refine aL fun q G hq0 (Q:G q=some (eM 0 0 0 0 0 o0)) N=>?_
 obtain⟨npq,P⟩:=N P;clear N hq0;simp only[go_sem,P,Q];refine bF Q ⟨Nat.zero_lt_one,rfl,Nat.le_of_ble_eq_true rfl⟩ fun G Q1 F=>?_
 replace P:=F _ _ npq P;replace Q:G q=some ⟨66,21,[bC ev]⟩:=Q1;clear F Q1;simp only[go_sem,P,Q];refine aA (fun _=>?_) (fun hok=>?_)
 ·simp only[go_sem,P];refine bF P ⟨Nat.zero_lt_one,rfl,Nat.le_of_ble_eq_true rfl⟩ fun G P1 F=>?_
  simp only[go_sem,P1];exact .refl _
 obtain⟨kind,ws,hpe⟩:=hq (by simpa using hok);have hE:=RN hpe;simp only[go_sem,P,Q];refine bB (Hv ev hE) ?_;simp only[go_sem,P,Q];refine aA (fun _=>?_) (fun hb=>?_)
 ·simp only[go_sem,P,Q];refine bF P ⟨Nat.zero_lt_one,rfl,Nat.le_of_ble_eq_true rfl⟩ fun G P1 F=>?_
  simp only[go_sem,P1];exact .refl _
 rw[Xaq]at hb;refine absurd ⟨ev,hE,?_,?_⟩ h
 ·simpa using hb.1
 ·exact(gI (by simpa using hb.2)).symm
end Sp
namespace Sc
open Go.Proofs.Tryz
open Go.RowKit (Below)
open Go.Proofs.YthbiheckeoknlaaGreatDoor
open Go.Proofs.YthbiheckeoknlaaGreatDoor.Nw (ltB geB cB)
theorem iO(l:List Int)(hl:l.length≤2000000)(hz:∀n∈l,bH n):PC prog 103 [.sl (l.map D.aY)] (str (cS spB (l.map aH))):=by
 refine pcd func103 rfl rfl ?_;simp only[go_sem];refine⟨fun ρ H=>∃(k:Nat),k≤l.length∧ρ 0=.sl (l.map D.aY)∧ρ 4=int k∧ρ 3=str (cS spB ((l.take k).map aH)),fun ρ _=>l.length-bO (ρ 4),⟨0,Xad _,by simp only[go_sem],(by simp only[go_sem];rfl),by simp only[go_sem];rfl⟩,?_⟩;rintro ρ H ⟨k,hk,e0,e4,e3⟩;simp only[go_sem,e0,e4,e3];refine aA (fun hlt=>?_) (fun hge=>?_)
 ·have hlt:=ltB hlt;obtain⟨a,ha⟩:=cG hlt;have b1:=inB hlt;have hj:=Xam (Ay (s:=spB) (f:=aH) (B:=21) l k fun n hn=>bT (hz n hn)) (show l.length*((spB:ByteArray).size+21)≤44000000 by show l.length*(1+21)≤_;omega);have hsa:=bT (hz a (aQ ha));simp only[go_sem,e0,e4,e3,aM ha,b1];refine bB (iH a (hz a (aQ ha))) ?_;simp only[go_sem,e0,e4,e3,cH k];refine⟨by rw[bA];first|omega|(simp only[ByteArray.size_append,List.size_toArray,Xaa,List.length_nil];omega),by rw[bA];first|omega|(simp only[ByteArray.size_append,List.size_toArray,Xaa,List.length_nil];omega),⟨k+1,hlt,rfl,?_⟩,by simp only[aE];omega⟩;rw[uT ha];rfl
 ·have hge:=geB hk hge;subst hge;simp only[go_sem,e0,e4,e3];rw[Xaj (Xae _)];exact .refl _
theorem qdd{H:aC}(l:List Int)(hl:l.length≤2000000)(h:∀n∈l,bH n):dE prog 103 [.sl (l.map D.aY)] H (str (cS spB (l.map aH))):=.inl ⟨_,.cons _ _ _ _ (.refl _) .nil,iO l hl h,rfl⟩
theorem sU{n:Int}(h:bH n):∀m∈[n],bH m:=fun m hm=>by simp at hm;subst hm;exact h
theorem RE(w:ByteArray)(l:List ByteArray):aG spB (w::l)=w++cS spB l:=rfl
theorem SX{a:ByteArray}{l:List ByteArray}:cS spB (a::l)=cS spB [a]++cS spB l:=yE spB [a] l
theorem QH{e:D.Event}{l:List Int}(h:gC e=e.at_::l):aW e.kind++cS spB [aH e.at_]++cS spB (l.map aH)=aG spB (gK e):=by unfold gK;rw[h,RE,Xak,bQ,←SX]
theorem Gv(e:D.Event)(h:OkE e):PC prog 54 [.agg (bC e)] (.tup [str (evR e).1,int (evR e).2]):=by
 have hw6:=AC e.kind;have z1:=gS (l:=[e.at_]) (by simp) (sU h.at_);simp only[Xak,Xao]at z1;refine pcd func54 rfl rfl ?_;simp only[go_sem];unfold evR;refine aA (fun hb=>?_) (fun hb=>?_)
 · simp only[go_sem];rw[if_pos (by simpa using hb)];exact .refl _
 have hk:¬(e.kind<1∨5<e.kind):=by simpa using hb
 rw[if_neg hk];have hk':1≤e.kind∧e.kind≤5:=by omega
 simp only[go_sem];refine bB (KS e hk') ?_;simp only[go_sem];refine aA (fun hb=>?_) (fun hb=>?_)
 · simp only[go_sem];rw[if_pos (by simpa using hb)];exact .refl _
 rw[if_neg (by simpa using hb)];simp only[go_sem];refine bX [(0,true),(1,true),(2,true),(3,true),(4,true),(5,false),(6,true),(7,true),(8,true)] (by kernel_rfl) ?_;simp only[go_sem];refine⟨_,qi (Ef e.kind),?_⟩;simp only[go_sem];refine⟨_,qdd [e.at_] (by simp) (sU h.at_),?_⟩;simp only[go_sem];refine⟨by rw[bA];first|omega|(simp only[ByteArray.size_append,List.size_toArray,Xaa,List.length_nil];omega),?_⟩;have hk5:e.kind=1∨e.kind=2∨e.kind=3∨e.kind=4∨e.kind=5:=by omega
 rcases hk5 with hk1|hk1|hk1|hk1|hk1
 · -- an order
   rw[if_pos hk1];refine aA (fun hb=>absurd hb (by rw[hk1];decide)) (fun _=>?_);simp only[go_sem];refine aA (fun hb=>absurd hb (by rw[hk1];decide)) (fun _=>?_);simp only[go_sem];refine aA (fun hb=>absurd hb (by rw[hk1];decide)) (fun _=>?_);simp only[go_sem];refine aA (fun hb=>absurd hb (by rw[hk1];decide)) (fun _=>?_);simp only[go_sem];refine cN fun p hp0=>?_
   simp only[go_sem];refine oL hp0 (by simp[aB]) fun HGp (Rp:HGp p=some (⟨64,16,[aB e.order]⟩)) N=>?_
   clear N hp0;simp only[go_sem,Rp];refine aA (fun hb1=>?_) (fun hb1=>?_)
   · simp only[go_sem];rw[if_pos hb1];exact .refl _
   rw[if_neg (by rw[hb1];simp)];simp only[go_sem,Rp];refine bB (oU e.order.name h.order.name) ?_;simp only[go_sem,Rp];refine aA (fun hb2=>?_) (fun hb2=>?_)
   · simp only[go_sem];rw[if_pos (by simpa using hb2)];exact .refl _
   rw[if_neg (by simpa using hb2)];simp only[go_sem,Rp,Xab];refine aA (fun hb3=>?_) (fun hb3=>?_)
   · simp only[go_sem];have h3:((e.order.load.length:Nat):Int)>3:=by simpa using hb3
     rw[if_pos (by omega)];exact .refl _
   have h3:¬((e.order.load.length:Nat):Int)>3:=by simpa using hb3
   rw[if_neg (by omega)];replace h3:e.order.load.length≤3:=by omega
   have ho:=iN h.order h3;have w1:bH (e.order.load.length:Int):=⟨by omega,by omega⟩;have w3:∀n∈fZ e.order.pick,bH n:=fun n hn=>ho.1 n (by simp[dU,hn])
   have w4:∀n∈fZ e.order.drop,bH n:=fun n hn=>ho.1 n (by simp[dU,hn])
   have w5:∀n∈[e.order.skills,e.order.penalty,e.order.split,e.order.last,e.order.now],bH n:=fun n hn=>ho.1 n (by simp only[dU,Xap];exact .inr hn)
   have x1:=gS (l:=[(e.order.load.length:Int)]) (by simp) (sU w1);have x2:=gS (l:=e.order.load) (by omega) h.order.load;have x3:=gS (l:=fZ e.order.pick) (by simp[fZ]) w3;have x4:=gS (l:=fZ e.order.drop) (by simp[fZ]) w4;have x5:=gS (l:=[e.order.skills,e.order.penalty,e.order.split,e.order.last,e.order.now]) (by simp) w5;simp only[Xak,Xao]at x1 x5;have x0:=h.order.name;have hn:gC e=e.at_::[]:=by unfold gC;rw[if_neg (by omega),if_neg (by omega),if_neg (by omega),if_neg (by omega)]
   have hT:aW e.kind++cS spB [aH e.at_]++(⟨#[32]⟩++e.order.name++cS spB [aH (e.order.load.length:Int)]++cS spB (e.order.load.map aH)++cS spB ((fZ e.order.pick).map aH)++cS spB ((fZ e.order.drop).map aH))++cS spB [aH e.order.skills,aH e.order.penalty,aH e.order.split,aH e.order.last,aH e.order.now]=aG spB (kP e):=by
     have h1:kP e=aW e.kind::([aH e.at_]++[e.order.name]++[aH (e.order.load.length:Int)]++e.order.load.map aH++(fZ e.order.pick).map aH++(fZ e.order.drop).map aH++[aH e.order.skills,aH e.order.penalty,aH e.order.split,aH e.order.last,aH e.order.now]):=by unfold kP gK dU;rw[hn];simp
     rw[h1,RE];simp only[yE,bQ];rw[bS spB e.order.name,cY,dP];simp only[bQ];rfl
   simp only[go_sem,Rp];refine rM [p] [(0,true),(1,true),(2,true),(3,true),(4,true),(5,true),(6,true),(10,true),(11,true),(14,true),(15,true),(19,true),(20,true),(7,false),(8,true),(9,true),(12,true),(13,true),(16,false),(17,true),(18,true),(21,false),(22,true),(23,true),(24,true),(25,true)] (by simp[Rp]) (by kernel_rfl) fun Hp Hr hp hr _ hr0=>?_
   have P_Rp:=(hp p (by simp)).trans Rp;simp only[go_sem,P_Rp];refine⟨by rw[bA];first|omega|(simp only[ByteArray.size_append,List.size_toArray,Xaa,List.length_nil];omega),_,qdd [(e.order.load.length:Int)] (by simp) (sU w1),?_⟩;simp only[go_sem,P_Rp];refine⟨by rw[bA];first|omega|(simp only[ByteArray.size_append,List.size_toArray,Xaa,List.length_nil];omega),_,qdd e.order.load (by omega) h.order.load,?_⟩;simp only[go_sem,P_Rp];refine⟨by rw[bA];first|omega|(simp only[ByteArray.size_append,List.size_toArray,Xaa,List.length_nil];omega),?_⟩;refine bB (BI e.order.pick) ?_;simp only[go_sem,P_Rp];refine⟨_,qdd (fZ e.order.pick) (by simp[fZ]) w3,?_⟩;simp only[go_sem,P_Rp];refine⟨by rw[bA];first|omega|(simp only[ByteArray.size_append,List.size_toArray,Xaa,List.length_nil];omega),?_⟩;refine bB (BI e.order.drop) ?_;simp only[go_sem,P_Rp];refine⟨_,qdd (fZ e.order.drop) (by simp[fZ]) w4,?_⟩;simp only[go_sem,P_Rp];refine⟨by rw[bA];first|omega|(simp only[ByteArray.size_append,List.size_toArray,Xaa,List.length_nil];omega),by rw[bA];first|omega|(simp only[ByteArray.size_append,List.size_toArray,Xaa,List.length_nil];omega),?_⟩;refine cV fun _ Hm hm1 hm2=>?_
   have Rm:=(hm1 p (by simp)).trans Rp;simp only[go_sem,Rm];refine bB (iO [e.order.skills,e.order.penalty,e.order.split,e.order.last,e.order.now] (by simp) w5) ?_;simp only[go_sem];refine⟨by rw[bA];first|omega|(simp only[ByteArray.size_append,List.size_toArray,Xaa,List.length_nil];omega),?_⟩;rw[←hT];exact .refl _
 · rw[if_neg (by omega)];have hn:gC e=e.at_::[e.a]:=by unfold gC;rw[if_neg (by omega),if_neg (by omega),if_neg (by omega),if_pos hk1]
   have z2:=gS (l:=[e.a]) (by simp) (sU h.a);simp only[Xak,Xao]at z2;refine aA (fun _=>?_) (fun hb=>absurd hb (by rw[hk1];decide));simp only[go_sem];refine aA (fun _=>?_) (fun hb=>absurd hb (by rw[hk1];decide));simp only[go_sem];refine bB (iO [e.a] (by simp) (sU h.a)) ?_;simp only[go_sem];refine⟨by rw[bA];first|omega|(simp only[ByteArray.size_append,List.size_toArray,Xaa,List.length_nil];omega),?_⟩;rw[←QH hn];exact .refl _
 · rw[if_neg (by omega)];have hn:gC e=e.at_::[e.a,e.b,e.n]:=by unfold gC;rw[if_pos hk1]
   have hl:∀m∈[e.a,e.b,e.n],bH m:=by
     intro m hm;simp only[Xaf,List.not_mem_nil,or_false]at hm;rcases hm with rfl|rfl|rfl
     · exact h.a
     · exact h.b
     · exact h.n
   have z2:=gS (l:=[e.a,e.b,e.n]) (by simp) hl;simp only[Xak,Xao]at z2;refine aA (fun hb=>absurd hb (by rw[hk1];decide)) (fun _=>?_);simp only[go_sem];refine aA (fun hb=>absurd hb (by rw[hk1];decide)) (fun _=>?_);simp only[go_sem];refine aA (fun _=>?_) (fun hb=>absurd hb (by rw[hk1];decide));simp only[go_sem];refine bB (iO [e.a,e.b,e.n] (by simp) hl) ?_;simp only[go_sem];refine⟨by rw[bA];first|omega|(simp only[ByteArray.size_append,List.size_toArray,Xaa,List.length_nil];omega),?_⟩;rw[←QH hn];exact .refl _
 · rw[if_neg (by omega)];have hn:gC e=e.at_::[e.a]:=by unfold gC;rw[if_neg (by omega),if_neg (by omega),if_pos hk1]
   have z2:=gS (l:=[e.a]) (by simp) (sU h.a);simp only[Xak,Xao]at z2;refine aA (fun hb=>absurd hb (by rw[hk1];decide)) (fun _=>?_);simp only[go_sem];refine aA (fun _=>?_) (fun hb=>absurd hb (by rw[hk1];decide));simp only[go_sem];refine bB (iO [e.a] (by simp) (sU h.a)) ?_;simp only[go_sem];refine⟨by rw[bA];first|omega|(simp only[ByteArray.size_append,List.size_toArray,Xaa,List.length_nil];omega),?_⟩;rw[←QH hn];exact .refl _
 · rw[if_neg (by omega)];have hn:gC e=e.at_::[e.a,e.n]:=by unfold gC;rw[if_neg (by omega),if_pos hk1]
   have hl:∀m∈[e.a,e.n],bH m:=by
     intro m hm;simp only[Xaf,List.not_mem_nil,or_false]at hm;rcases hm with rfl|rfl
     · exact h.a
     · exact h.n
   have z2:=gS (l:=[e.a,e.n]) (by simp) hl;simp only[Xak,Xao]at z2;refine aA (fun hb=>absurd hb (by rw[hk1];decide)) (fun _=>?_);simp only[go_sem];refine aA (fun hb=>absurd hb (by rw[hk1];decide)) (fun _=>?_);simp only[go_sem];refine aA (fun hb=>absurd hb (by rw[hk1];decide)) (fun _=>?_);simp only[go_sem];refine aA (fun _=>?_) (fun hb=>absurd hb (by rw[hk1];decide));simp only[go_sem];refine bB (iO [e.a,e.n] (by simp) hl) ?_;simp only[go_sem];refine⟨by rw[bA];first|omega|(simp only[ByteArray.size_append,List.size_toArray,Xaa,List.length_nil];omega),?_⟩;rw[←QH hn];exact .refl _
def iA(e:D.Event):Bool:=pJ e.order&&(e.at_ == 0)&&(e.kind == 0)&&(e.a == 0)&&(e.b == 0)&&(e.n == 0)
theorem pB(e:D.Event):PC prog 52 [.agg (bC e)] (boo (iA e)):=by
 refine pcd func52 rfl rfl ?_;simp only[go_sem];refine cN fun p hp0=>?_
 simp only[go_sem];refine oL hp0 (by simp[aB]) fun HGp (Rp:HGp p=some (⟨64,16,[aB e.order]⟩)) N=>?_
 clear N hp0;simp only[go_sem,Rp];refine cB ?_;unfold iA pJ;simp only[wG,Bool.and_true]
 ac_rfl
def OkC(c:D.Command):Prop:=bH c.n∧OkE c.event
def iX(c:D.Command):ByteArray×Int:=
 if c.kind=1 then(if(iA c.event&&c.n == 0)=true then(⟨#[112,108,97,110]⟩,0)else(⟨#[]⟩,2))
 else if c.kind=4 then(if(iA c.event&&c.n == 0)=true then(⟨#[112,114,111,118,101]⟩,0)else(⟨#[]⟩,2))
 else if c.kind=6 then(if(iA c.event&&c.n == 0)=true then(⟨#[110,101,120,116]⟩,0)else(⟨#[]⟩,2))
 else if c.kind=2 then(if iA c.event=true then(⟨#[97,100,118,97,110,99,101]⟩++(⟨#[32]⟩++aH c.n),0)else(⟨#[]⟩,2))
 else if c.kind=5 then(if iA c.event=true then(⟨#[101,120,112,108,97,105,110]⟩++(⟨#[32]⟩++aH c.n),0)else(⟨#[]⟩,2))
 else if c.kind=3 then(if c.n=0 then(if(evR c.event).2=0 then(⟨#[104,97,112,112,101,110,32]⟩++(evR c.event).1,0)else(⟨#[]⟩,(evR c.event).2))else(⟨#[]⟩,2))
 else(⟨#[]⟩,8)
theorem Hc{e:D.Event}(h:OkE e):(evR e).1.size≤25000000:=by
 unfold evR;split
 ·exact(by decide:(0:Nat)≤25000000)
 split
 ·exact(by decide:(0:Nat)≤25000000)
 split
 ·split
  ·exact(by decide:(0:Nat)≤25000000)
  split
  ·exact(by decide:(0:Nat)≤25000000)
  split
  ·exact(by decide:(0:Nat)≤25000000)
  ·rename_i h3;have hl:=BL h (by omega);refine Xam (kY (s:=spB) (kP e) (zX h (by omega))) ?_;show(kP e).length*(1+1048576)≤_;omega
 ·have hl:=vC h;refine Xam (kY (s:=spB) (gK e) (sG h)) ?_;show(gK e).length*(1+1048576)≤_;omega
theorem DY{c:D.Command}(h:OkC c):(iX c).1.size≤30000000:=by
 have h1:=bT h.1;have h2:=Hc h.2;have k0:(⟨#[]⟩:ByteArray).size≤30000000:=by decide
 have q1:(⟨#[97,100,118,97,110,99,101]⟩:ByteArray).size=7:=rfl;have q2:(⟨#[101,120,112,108,97,105,110]⟩:ByteArray).size=7:=rfl;have q3:(⟨#[104,97,112,112,101,110,32]⟩:ByteArray).size=7:=rfl;have q4:(⟨#[32]⟩:ByteArray).size=1:=rfl;unfold iX
 repeat' split
 all_goals first|exact k0|(show(4:Nat)≤30000000;decide)|(show(5:Nat)≤30000000;decide)|(show(_++_:ByteArray).size≤_;simp only[ByteArray.size_append,List.size_toArray,Xaa,List.length_nil];omega)
theorem S9{b:Bool}(h:(!b)=true):¬b=true:=by cases b with|true=>cases h|false=>simp
theorem EY(c:D.Command)(h:OkC c):PC prog 19 [.agg (aS c)] (.tup [str (iX c).1,int (iX c).2]):=by
 have z1:=bT h.1;have z2:=Hc h.2;refine pcd func19 rfl rfl ?_;simp only[go_sem];by_cases hk0:c.kind=1∨c.kind=4∨c.kind=6∨c.kind=2∨c.kind=5∨c.kind=3
 ·rcases hk0 with hk|hk|hk|hk|hk|hk
  ·have hc:iX c=(if(iA c.event&&c.n == 0)=true then(⟨#[112,108,97,110]⟩,0)else(⟨#[]⟩,2)):=by unfold iX;rw[if_pos hk]
   refine aA (fun _=>?_) (fun hb=>absurd hb (by rw[hk];decide));simp only[go_sem];refine aA (fun _=>?_) (fun hb=>absurd hb (by rw[hk];decide));simp only[go_sem];refine⟨_,fun _=>gdB (pB c.event),?_⟩;simp only[go_sem];refine aA (fun hb=>?_) (fun hb=>?_)
   ·simp only[go_sem];have hn:¬(iA c.event&&c.n == 0)=true:=by
     revert hb
     cases iA c.event <;> by_cases hz:c.n=0 <;> simp[hz]
    rw[hc,if_neg hn];exact .refl _
   have hn:(iA c.event&&c.n == 0)=true:=by
    revert hb
    cases iA c.event <;> by_cases hz:c.n=0 <;> simp[hz]
   rw[hc,if_pos hn];simp only[go_sem];refine aA (fun _=>?_) (fun hb=>absurd hb (by rw[hk];decide));simp only[go_sem];exact .refl _
  ·have hc:iX c=(if(iA c.event&&c.n == 0)=true then(⟨#[112,114,111,118,101]⟩,0)else(⟨#[]⟩,2)):=by unfold iX;rw[if_neg (by omega),if_pos hk]
   refine aA (fun hb=>absurd hb (by rw[hk];decide)) (fun _=>?_);simp only[go_sem];refine aA (fun _=>?_) (fun hb=>absurd hb (by rw[hk];decide));simp only[go_sem];refine aA (fun _=>?_) (fun hb=>absurd hb (by rw[hk];decide));simp only[go_sem];refine⟨_,fun _=>gdB (pB c.event),?_⟩;simp only[go_sem];refine aA (fun hb=>?_) (fun hb=>?_)
   ·simp only[go_sem];have hn:¬(iA c.event&&c.n == 0)=true:=by
     revert hb
     cases iA c.event <;> by_cases hz:c.n=0 <;> simp[hz]
    rw[hc,if_neg hn];exact .refl _
   have hn:(iA c.event&&c.n == 0)=true:=by
    revert hb
    cases iA c.event <;> by_cases hz:c.n=0 <;> simp[hz]
   rw[hc,if_pos hn];simp only[go_sem];refine aA (fun hb=>absurd hb (by rw[hk];decide)) (fun _=>?_);simp only[go_sem];refine aA (fun _=>?_) (fun hb=>absurd hb (by rw[hk];decide));simp only[go_sem];exact .refl _
  ·have hc:iX c=(if(iA c.event&&c.n == 0)=true then(⟨#[110,101,120,116]⟩,0)else(⟨#[]⟩,2)):=by unfold iX;rw[if_neg (by omega),if_neg (by omega),if_pos hk]
   refine aA (fun hb=>absurd hb (by rw[hk];decide)) (fun _=>?_);simp only[go_sem];refine aA (fun hb=>absurd hb (by rw[hk];decide)) (fun _=>?_);simp only[go_sem];refine aA (fun _=>?_) (fun hb=>absurd hb (by rw[hk];decide));simp only[go_sem];refine⟨_,fun _=>gdB (pB c.event),?_⟩;simp only[go_sem];refine aA (fun hb=>?_) (fun hb=>?_)
   ·simp only[go_sem];have hn:¬(iA c.event&&c.n == 0)=true:=by
     revert hb
     cases iA c.event <;> by_cases hz:c.n=0 <;> simp[hz]
    rw[hc,if_neg hn];exact .refl _
   have hn:(iA c.event&&c.n == 0)=true:=by
    revert hb
    cases iA c.event <;> by_cases hz:c.n=0 <;> simp[hz]
   rw[hc,if_pos hn];simp only[go_sem];refine aA (fun hb=>absurd hb (by rw[hk];decide)) (fun _=>?_);simp only[go_sem];refine aA (fun hb=>absurd hb (by rw[hk];decide)) (fun _=>?_);simp only[go_sem];exact .refl _
  ·have hc:iX c=(if iA c.event=true then(⟨#[97,100,118,97,110,99,101]⟩++(⟨#[32]⟩++aH c.n),0)else(⟨#[]⟩,2)):=by unfold iX;rw[if_neg (by omega),if_neg (by omega),if_neg (by omega),if_pos hk]
   refine aA (fun hb=>absurd hb (by rw[hk];decide)) (fun _=>?_);simp only[go_sem];refine aA (fun hb=>absurd hb (by rw[hk];decide)) (fun _=>?_);simp only[go_sem];refine aA (fun hb=>absurd hb (by rw[hk];decide)) (fun _=>?_);simp only[go_sem];refine aA (fun _=>?_) (fun hb=>absurd hb (by rw[hk];decide));simp only[go_sem];refine aA (fun _=>?_) (fun hb=>absurd hb (by rw[hk];decide));simp only[go_sem];refine bB (pB c.event) ?_;simp only[go_sem];refine aA (fun hb=>?_) (fun hb=>?_)
   ·simp only[go_sem];rw[hc,if_neg (S9 hb)];exact .refl _
   rw[hc,if_pos (by simpa using hb)];simp only[go_sem];refine aA (fun _=>?_) (fun hb=>absurd hb (by rw[hk];decide));simp only[go_sem];refine bB (iH c.n h.1) ?_;simp only[go_sem];refine⟨by rw[bA];first|omega|(simp only[ByteArray.size_append,List.size_toArray,Xaa,List.length_nil];omega),?_⟩;rw[←bQ];exact .refl _
  ·have hc:iX c=(if iA c.event=true then(⟨#[101,120,112,108,97,105,110]⟩++(⟨#[32]⟩++aH c.n),0)else(⟨#[]⟩,2)):=by unfold iX;rw[if_neg (by omega),if_neg (by omega),if_neg (by omega),if_neg (by omega),if_pos hk]
   refine aA (fun hb=>absurd hb (by rw[hk];decide)) (fun _=>?_);simp only[go_sem];refine aA (fun hb=>absurd hb (by rw[hk];decide)) (fun _=>?_);simp only[go_sem];refine aA (fun hb=>absurd hb (by rw[hk];decide)) (fun _=>?_);simp only[go_sem];refine aA (fun hb=>absurd hb (by rw[hk];decide)) (fun _=>?_);simp only[go_sem];refine aA (fun _=>?_) (fun hb=>absurd hb (by rw[hk];decide));simp only[go_sem];refine bB (pB c.event) ?_;simp only[go_sem];refine aA (fun hb=>?_) (fun hb=>?_)
   ·simp only[go_sem];rw[hc,if_neg (S9 hb)];exact .refl _
   rw[hc,if_pos (by simpa using hb)];simp only[go_sem];refine aA (fun hb=>absurd hb (by rw[hk];decide)) (fun _=>?_);simp only[go_sem];refine bB (iH c.n h.1) ?_;simp only[go_sem];refine⟨by rw[bA];first|omega|(simp only[ByteArray.size_append,List.size_toArray,Xaa,List.length_nil];omega),?_⟩;rw[←bQ];exact .refl _
  ·have hc:iX c=(if c.n=0 then(if(evR c.event).2=0 then(⟨#[104,97,112,112,101,110,32]⟩++(evR c.event).1,0)else(⟨#[]⟩,(evR c.event).2))else(⟨#[]⟩,2)):=by unfold iX;rw[if_neg (by omega),if_neg (by omega),if_neg (by omega),if_neg (by omega),if_neg (by omega),if_pos hk]
   refine aA (fun hb=>absurd hb (by rw[hk];decide)) (fun _=>?_);simp only[go_sem];refine aA (fun hb=>absurd hb (by rw[hk];decide)) (fun _=>?_);simp only[go_sem];refine aA (fun hb=>absurd hb (by rw[hk];decide)) (fun _=>?_);simp only[go_sem];refine aA (fun hb=>absurd hb (by rw[hk];decide)) (fun _=>?_);simp only[go_sem];refine aA (fun hb=>absurd hb (by rw[hk];decide)) (fun _=>?_);simp only[go_sem];refine aA (fun _=>?_) (fun hb=>absurd hb (by rw[hk];decide));simp only[go_sem];refine aA (fun hb=>?_) (fun hb=>?_)
   ·simp only[go_sem];rw[hc,if_neg (by simpa using hb)];exact .refl _
   have hn:c.n=0:=by simpa using hb
   rw[if_pos hn]at hc;simp only[go_sem];refine bB (Gv c.event h.2) ?_;simp only[go_sem];refine aA (fun hb=>?_) (fun hb=>?_)
   ·simp only[go_sem];have he:¬(evR c.event).2=0:=by simpa using hb
    rw[hc,if_neg he];exact .refl _
   have he:(evR c.event).2=0:=by simpa using hb
   simp only[go_sem];rw[hc,if_pos he];exact⟨by rw[bA];first|omega|(simp only[ByteArray.size_append,List.size_toArray,Xaa,List.length_nil];omega),.refl _⟩
 ·have hc:iX c=(⟨#[]⟩,8):=by unfold iX;rw[if_neg (by omega),if_neg (by omega),if_neg (by omega),if_neg (by omega),if_neg (by omega),if_neg (by omega)]
  refine aA (fun hb=>absurd (by simpa using hb) (show ¬c.kind=1 by omega)) (fun _=>?_);simp only[go_sem];refine aA (fun hb=>absurd (by simpa using hb) (show ¬c.kind=4 by omega)) (fun _=>?_);simp only[go_sem];refine aA (fun hb=>absurd (by simpa using hb) (show ¬c.kind=6 by omega)) (fun _=>?_);simp only[go_sem];refine aA (fun hb=>absurd (by simpa using hb) (show ¬c.kind=2 by omega)) (fun _=>?_);simp only[go_sem];refine aA (fun hb=>absurd (by simpa using hb) (show ¬c.kind=5 by omega)) (fun _=>?_);simp only[go_sem];refine aA (fun hb=>absurd (by simpa using hb) (show ¬c.kind=3 by omega)) (fun _=>?_);simp only[go_sem];rw[hc];exact .refl _
end Sc
end Go.Proofs.YthbiheckeoknlaaGreatDoor
