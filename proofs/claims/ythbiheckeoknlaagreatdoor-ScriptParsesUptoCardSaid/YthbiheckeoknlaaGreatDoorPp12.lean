import Derived.Test.YthbiheckeoknlaaGreatDoorPp11
set_option linter.unusedSimpArgs false
set_option linter.unusedVariables false
set_option linter.defProp false
set_option maxRecDepth 100000
namespace Go.Proofs.YthbiheckeoknlaaGreatDoor
open Go.Aw Go.Aw.D Go.Proofs Ty
namespace Sc
open Go.Proofs.Tryz
open Go.RowKit (Below)
open Go.Proofs.YthbiheckeoknlaaGreatDoor
open Go.Proofs.YthbiheckeoknlaaGreatDoor.Nw (ltB geB cB)
def AG:List D.Command→Int
 | []=>0
 | c::r=>if(iX c).2=0 then AG r else(iX c).2
theorem Bh:∀{l:List D.Command},(∀c∈l,(iX c).2=0)→AG l=0
 | [],_=>rfl
 | c::r,h=>by rw[AG,if_pos (h c (by simp)),Bh fun x hx=>h x (by simp[hx])]
theorem LS:∀{l:List D.Command} {k:Nat} {c:D.Command},(∀c∈l.take k,(iX c).2=0)→l[k]?=some c→(iX c).2≠0→AG l=(iX c).2
 | [],_,_,_,h,_=>by simp at h
 | a::r,0,c,_,h,hc=>by simp at h;subst h;rw[AG,if_neg hc]
 | a::r,k+1,c,h0,h,hc=>by rw[AG,if_pos (h0 a (by simp)),LS (k:=k) (fun x hx=>h0 x (by simp[hx])) (by simpa using h) hc]
def BZ(c:D.Command):ByteArray:=(iX c).1++⟨#[10]⟩
def oS:ByteArray:=⟨#[98,101,103,105,110,10]⟩
def EB(s:D.Script):ByteArray:=(iD s.inst).1++oS++gL (s.commands.map BZ)
def B5(s:D.Script):ByteArray×Int:=
 if(iD s.inst).2=0 then(if AG s.commands=0 then(if 65536<(EB s).size then(⟨#[]⟩,4)else(EB s,0))else(⟨#[]⟩,AG s.commands))else(⟨#[]⟩,(iD s.inst).2)
structure OkS(s:D.Script):Prop where
 inst:OkI s.inst
 cl:s.commands.length≤9000
 cmd:∀c∈s.commands,OkC c
theorem Ta{α:Type}{f:α→ByteArray}{l:List α}(hl:l.length≤9000)(h:∀a∈l,(f a).size≤2000000000)(k:Nat):(gL ((l.take k).map f)).size≤18000000000000:=by
 have:=tN (B:=2000000000) ((l.take k).map f) fun a ha=>by obtain⟨x,hx,rfl⟩:=Xat.1 ha;exact h x (List.mem_of_mem_take hx)
 rw[Xab,Xas]at this;omega
theorem Ki{x:Instance}(h:OkI x):(mC x).size≤24000000000010:=by have:=(A6 x h).2.2.2.2.2;unfold mC;rw[ByteArray.size_append];have:SQ.size=4:=rfl;omega
theorem GT{x:Instance}(h:OkI x):(iD x).1.size≤24000000000010:=by
 have:=Ki h;unfold iD;split
 ·exact(by decide:(0:Nat)≤24000000000010)
 split
 ·exact(by decide:(0:Nat)≤24000000000010)
 ·exact this
theorem MZ{c:D.Command}(h:OkC c):(BZ c).size≤2000000000:=by have:=DY h;unfold BZ;rw[ByteArray.size_append];have:(⟨#[10]⟩:ByteArray).size=1:=rfl;omega
theorem Fh(s:D.Script)(h:OkS s):PC prog 7 [.agg (bR s)] (.tup [str (B5 s).1,int (B5 s).2]):=by
 have z1:=GT h.inst;refine pcd func7 rfl rfl ?_;simp only[go_sem];refine bB (Kc s.inst h.inst) ?_;simp only[go_sem];unfold B5;refine aA (fun hb=>?_) (fun hb=>?_)
 ·simp only[go_sem];rw[if_neg (by simpa using hb)];exact .refl _
 rw[if_pos (by simpa using hb)];simp only[go_sem];refine⟨by rw[bA];first|omega|(simp only[ByteArray.size_append,List.size_toArray,Xaa,List.length_nil];omega),?_⟩;refine⟨fun ρ H=>∃(k:Nat),k≤s.commands.length∧ρ 1=.rp (bR s) 0∧ρ 6=int k∧ρ 4=str ((iD s.inst).1++oS++gL ((s.commands.take k).map BZ))∧(∀c∈s.commands.take k,(iX c).2=0),fun ρ _=>s.commands.length-bO (ρ 6),⟨0,Xad _,by simp only[go_sem],(by simp only[go_sem];rfl),(by simp only[go_sem,Xbe,Xao,gL,dP];rfl),by simp⟩,?_⟩;rintro ρ H ⟨k,hk,e1,e6,e4,hz⟩;simp only[go_sem,e1,e6,e4];refine aA (fun hlt=>?_) (fun hge=>?_)
 ·have hlt:=ltB hlt;obtain⟨y,hy⟩:=cG hlt;have b1:=inB hlt;have hw:=fM (show k≤4611686018427387904 by have:=h.cl;omega);have hmy:=aQ hy;have hoy:=h.cmd y hmy;have hct:=lC (f:=BZ) hy;have hsz:=Ta (f:=BZ) h.cl (fun a ha=>MZ (h.cmd a ha)) k;have hys:=DY hoy;have hq:oS.size=6:=rfl;simp only[go_sem,e1,e6,e4,aM hy,b1];refine bB (EY y hoy) ?_;simp only[go_sem,e1,e6,e4];by_cases he:(iX y).2=0
  ·refine aA (fun hb=>absurd he (by simpa using hb)) (fun _=>?_);simp only[go_sem,e1,e6,e4,hw];refine⟨by rw[bA];first|omega|(simp only[ByteArray.size_append,List.size_toArray,Xaa,List.length_nil];omega),by rw[bA];first|omega|(simp only[ByteArray.size_append,List.size_toArray,Xaa,List.length_nil];omega),⟨k+1,hlt,rfl,?_,Nw.mZ hy he hz⟩,by simp only[aE];omega⟩;rw[hct];simp only[BZ,bQ]
  ·refine aA (fun _=>?_) (fun hb=>absurd (by simpa using hb) he);simp only[go_sem];have hE:=LS hz hy he;rw[if_neg (by rw[hE];exact he),hE];exact .refl _
 have hge:=geB hk hge;subst hge;rw[Xaj (Xae _)]at e4 hz;replace e4:ρ 4=str (EB s):=e4;rw[if_pos (Bh hz)];simp only[go_sem,e1,e6,e4];refine aA (fun hb2=>?_) (fun hb2=>?_)
 ·have hb3:((EB s).size:Int)>65536:=by simpa using hb2
  simp only[go_sem];rw[if_pos (by omega)];exact .refl _
 ·have hb3:¬((EB s).size:Int)>65536:=by simpa using hb2
  simp only[go_sem,e1,e6,e4];rw[if_neg (by omega)];exact .refl _
def zT(i:D.Item):ByteArray:=aH i.kind++(⟨#[58]⟩++aH i.a)
def aV(r:D.Reply):List ByteArray:=aH r.err::aH r.price::r.items.map zT
structure OkR(r:D.Reply):Prop where
 err:bH r.err
 price:bH r.price
 il:r.items.length≤100
 item:∀i∈r.items,bH i.kind∧bH i.a
theorem JA{i:D.Item}(h:bH i.kind∧bH i.a):(zT i).size≤43:=by have h1:=bT h.1;have h2:=bT h.2;unfold zT;rw[ByteArray.size_append,ByteArray.size_append];show _+(1+_)≤_;omega
theorem Qc{r:D.Reply}(h:OkR r):(∀a∈aV r,a.size≤43)∧(aV r).length≤102:=by
 refine⟨fun a ha=>?_,by have:=h.il;simp[aV];omega⟩;simp only[aV,Xaf,Xat]at ha;rcases ha with rfl|rfl|⟨i,hi,rfl⟩
 ·exact Xam (bT h.err) (by decide)
 ·exact Xam (bT h.price) (by decide)
 ·exact JA (h.item i hi)
theorem OA(r:D.Reply)(h:OkR r):PC prog 10 [.agg (lZ r)] (str (aG spB (aV r))):=by
 refine pcb (fun t=>t == 12) func10 rfl rfl ?_;simp only[go_sem];refine bX [(0,true),(1,true),(2,true),(3,true),(4,true),(5,true),(6,false),(7,true)] (by kernel_rfl) ?_;simp only[go_sem];refine⟨_,qi (Oz r.err h.err),?_⟩;simp only[go_sem];refine⟨_,qi (iZ r.price h.price),?_⟩;simp only[go_sem];refine aL fun i HGi hi0 (Ri:HGi i=some (cA [aH r.err,aH r.price])) N=>?_
 clear N hi0;simp only[go_sem,Ri];refine⟨fun ρ H=>∃(k:Nat) (i:Nat),k≤r.items.length∧ρ 14=.sl (r.items.map lP)∧ρ 15=int (r.items.length:Nat)∧ρ 16=int k∧ρ 3=.os i∧H i=some (cA (aH r.err::aH r.price::(r.items.take k).map zT)),fun ρ _=>r.items.length-bO (ρ 16),⟨0,i,Xad _,by simp only[go_sem],by simp only[go_sem,Xab],(by simp only[go_sem];rfl),by simp only[go_sem],Ri⟩,?_⟩;rintro ρ H ⟨k,i,hk,e14,e15,e16,e3,Ri⟩;simp only[go_sem,e14,e15,e16,e3];refine aA (fun hlt=>?_) (fun hge=>?_)
 ·have hlt:=ltB hlt;obtain⟨y,hy⟩:=cG hlt;have b1:=inB hlt;have hwr:=fM (show k≤4611686018427387904 by have:=h.il;omega);have hst:(r.items.take (k+1)).map zT=(r.items.take k).map zT++[zT y]:=by rw[fL hy];simp
  have hok:=h.item y (aQ hy);have s1:=bT hok.1;have s2:=bT hok.2;have hil:=h.il;simp only[go_sem,e14,e15,e16,e3,aM hy,b1];refine cN fun p hp0=>?_
  simp only[go_sem,e14,e15,e16,e3,hwr,Ri];refine oL hp0 (by simp[lP]) fun HGp (Rp:HGp p=some (⟨50,2,[lP y]⟩)) N=>?_
  replace Ri:=N Ri;obtain⟨ne_i_p,Ri⟩:=Ri;clear N hp0;simp only[go_sem,e14,e15,e16,e3,hwr,Rp,Ri];refine rM [p] [(0,true),(1,true),(2,true),(3,true),(4,true),(5,true),(6,true),(7,true),(8,true),(9,false),(10,false),(11,true)] (by simp[Rp]) (by kernel_rfl) fun Hp Hr hp hr _ hr0=>?_
  have P_Rp:=(hp p (by simp)).trans Rp;have Q_Ri:=(hr i (by simp[ne_i_p])).trans Ri;simp only[go_sem,e14,e15,e16,e3,P_Rp,Q_Ri];refine⟨_,qi (iZ y.kind hok.1),?_⟩;simp only[go_sem,e14,e15,e16,e3,P_Rp];refine⟨by rw[bA];first|omega|(simp only[ByteArray.size_append,List.size_toArray,Xaa,List.length_nil];omega),_,qi (iZ y.a hok.2),?_⟩;simp only[go_sem,e14,e15,e16,e3,P_Rp];refine⟨by rw[bA];first|omega|(simp only[ByteArray.size_append,List.size_toArray,Xaa,List.length_nil];omega),?_⟩;refine aP Q_Ri ⟨rfl,rfl⟩ (by simp only[go_sem]) (by simp only[Xab,Xaa,List.length_nil,Xas];omega) fun j' hj'=>?_
  simp only[go_sem,e14,e15,e16,e3];refine cV fun h0 Hm hm1 hm2=>?_
  have hjp:j'≠p:=fun e=>by have:=h0 p (by simp);rw[←e,aD]at this;cases this
  have g1:=(hm2 j' (by simp[hjp])).trans (aD _ _ _);simp only[go_sem,e14,e15,e16,e3,hwr];refine⟨⟨k+1,j',hlt,rfl,rfl,g1.trans ?_⟩,by simp only[aE];omega⟩;rw[hst];simp only[cA,Xal,Xak,Xav,zT,bQ];rfl
 have hge:=geB hk hge;subst hge;rw[Xaj (Xae _)]at Ri;replace Ri:H i=some (cA (aV r)):=Ri;obtain⟨q1,q2⟩:=Qc h;simp only[go_sem,e14,e15,e16,e3];refine pH.use ⟨[.sl ((aV r).map D.bE)],.cons _ _ _ _ (.row _ _ _ Ri (ConvE.refl _)) .nil,Ak _ (by omega) ?_,rfl⟩ ?_
 ·refine Xam (kY (s:=spB) (aV r) q1) ?_;show(aV r).length*(1+43)≤_;omega
 ·simp only[go_sem];exact .refl _
theorem Nc:PC prog 11 [str ⟨#[]⟩] (.tup [str ⟨#[]⟩,str ⟨#[]⟩,boo false]):=by refine pcd func11 rfl rfl ?_;simp only[go_sem];refine⟨fun ρ _=>ρ 0=str ⟨#[]⟩∧ρ 5=int 0,fun _ _=>0,⟨by simp only[go_sem],by simp only[go_sem]⟩,?_⟩;rintro ρ H ⟨e0,e5⟩;simp only[go_sem,e0,e5];refine aA (fun hb=>absurd hb (by decide)) (fun _=>?_);simp only[go_sem];exact .refl _
theorem N6:PC prog 12 [str ⟨#[]⟩,str ⟨#[10]⟩] (int 0):=by
 refine PC.lib (a:=[.string ⟨#[]⟩,.string ⟨#[10]⟩]) (v:=.int .i64 0) (fun S w=>rfl) fun w ht=>?_
 exact(Tryz.strings_Count_one ⟨#[]⟩ 10 w).mono fun e w' ⟨he,hw⟩=>⟨he,hw▸Below.refl _ _⟩
def nN:D.Script:=⟨⟨⟨[],[]⟩,[],[],[],[]⟩,[]⟩
theorem OM:PC prog 5 [str ⟨#[]⟩] (.tup [.agg (bR nN),int 1,int 3]):=by
 refine pcd func5 rfl rfl ?_;simp only[go_sem];refine aL fun r HGr hr0 (R:HGr r=some (⟨34,7,[bR nN]⟩)) N=>?_
 clear N hr0;simp only[go_sem,R];refine aA (fun hb=>absurd hb (by decide)) (fun _=>?_);simp only[go_sem,R];refine bB Nc ?_;simp only[go_sem,R];refine aA (fun _=>?_) (fun hb=>absurd hb (by decide));simp only[go_sem,R];refine bB N6 ?_;simp only[go_sem,R];refine fD R ⟨by simp,rfl,by simp⟩ ?_;simp only[go_sem];exact .refl _
theorem SI:PC prog 9 [str ⟨#[]⟩] (.sl [[str ⟨#[108,105,110,101,32,49,32,51]⟩]]):=by
 refine pcd func9 rfl rfl ?_;simp only[go_sem];refine bB OM ?_;simp only[go_sem];refine cN fun r hr0=>?_
 simp only[go_sem];refine oL hr0 (by simp[bR]) fun HGr (R:HGr r=some (⟨34,7,[bR nN]⟩)) N=>?_
 clear N hr0;simp only[go_sem,R];refine aA (fun _=>?_) (fun hb=>absurd hb (by decide));simp only[go_sem,R];refine bB (iZ 1 ⟨by decide,by decide⟩) ?_;simp only[go_sem];refine bB (Oz 3 ⟨by decide,by decide⟩) ?_;simp only[go_sem];refine bB (Ak [⟨#[108,105,110,101]⟩,aH 1,aH 3] (by decide) (by decide +kernel)) ?_;simp only[go_sem];rw[show aG spB [⟨#[108,105,110,101]⟩,aH 1,aH 3]=⟨#[108,105,110,101,32,49,32,51]⟩by decide +kernel];exact .refl _
abbrev yC(x:Instance)(n:Nat):List AV:=[.sl (x.net.places.map D.bE),.sl (x.net.arcs.map eF),.sl (x.types.map aX),.sl (x.orders.map aB),.sl (x.apart.map bP),.sl (x.before.map bP),.os n]
abbrev Jd(l:List D.Command):Row:=⟨68,23,l.map aS⟩
def Pa:D.Reply:=⟨0,7,[⟨3,0⟩]⟩
theorem Ra:OkR Pa:=⟨⟨by decide,by decide⟩,⟨by decide,by decide⟩,by decide,fun i hi=>by simp only[Pa,Xaf,List.not_mem_nil,or_false]at hi;subst hi;exact⟨⟨by decide,by decide⟩,⟨by decide,by decide⟩⟩⟩
theorem Qo:PC prog 10 [.agg (lZ Pa)] (str ⟨#[48,32,55,32,51,58,48]⟩):=by
 have:=OA Pa Ra
 rwa [show aG spB (aV Pa)=⟨#[48,32,55,32,51,58,48]⟩by decide +kernel]at this
theorem sW:PC prog 4 [] (boo true):=by refine pcd func4 rfl rfl ?_;simp only[go_sem];refine bB SI ?_;simp only[go_sem];refine⟨fun _=>by omega,_,fun _=>qi Qo,?_⟩;simp only[go_sem];exact cB (by decide +kernel)
end Sc
namespace Sk
open Go.Proofs.Tryz
open Go.Proofs.YthbiheckeoknlaaGreatDoor
open Go.Proofs.YthbiheckeoknlaaGreatDoor.Nw (ltB geB cB)
open Go.Proofs.YthbiheckeoknlaaGreatDoor.Sc hiding aW
open Go.RowKit (Below)
theorem Px(s p:ByteArray):PC prog 25 [str s,str p] (boo (Lib.hasPrefix s.data.toList p.data.toList)):=by refine PC.lib (a:=[.string s,.string p]) (v:=.bool (Lib.hasPrefix s.data.toList p.data.toList)) (fun S w=>rfl) fun u ht=>(Tryz.strings_HasPrefix s p u).mono fun e w' ⟨he,hw⟩=>⟨he,hw▸Below.refl _ _⟩
theorem DB(s:ByteArray):PC prog 26 [str s,.v (.int .u8 10)] (int (Lib.indexByte s.data.toList 10)):=by refine PC.lib (a:=[.string s,.int .u8 10]) (v:=.int .i64 (Lib.indexByte s.data.toList 10)) (fun S w=>rfl) fun w ht=>(Tryz.strings_IndexByte s 10 w).mono fun e w' ⟨he,hw⟩=>⟨he,hw▸Below.refl _ _⟩
theorem Lp{a b:ByteArray}{n:Nat}(h:a.size=n):(a++b).extract n (a++b).size=b:=ByteArray.extract_append_eq_right h.symm (by rw[ByteArray.size_append])
theorem Qf{a b:ByteArray}{n:Nat}(h:a.size=n):(a++b).extract 0 n=a:=ByteArray.extract_append_eq_left h.symm
def uF(s:ByteArray):Int:=if(s.toList == (⟨#[112,108,97,110]⟩:ByteArray).toList)=true then 1 else if(s.toList == (⟨#[112,114,111,118,101]⟩:ByteArray).toList)=true then 4 else if(s.toList == (⟨#[110,101,120,116]⟩:ByteArray).toList)=true then 6 else 0
theorem HU(s:ByteArray):PC prog 34 [str s] (int (uF s)):=by
 refine pcd func34 rfl rfl ?_;simp only[go_sem];unfold uF;refine aA (fun hb=>?_) (fun hb=>?_)
 ·rw[if_pos hb];simp only[go_sem];exact .refl _
 rw[if_neg (by rw[hb];decide)];simp only[go_sem];refine aA (fun hb=>?_) (fun hb=>?_)
 ·rw[if_pos hb];simp only[go_sem];exact .refl _
 rw[if_neg (by rw[hb];decide)];simp only[go_sem];refine aA (fun hb=>?_) (fun hb=>?_)
 ·rw[if_pos hb];simp only[go_sem];exact .refl _
 rw[if_neg (by rw[hb];decide)];simp only[go_sem];exact .refl _
def e00:D.Event:=⟨0,0,0,0,0,o0⟩
def Gc:ByteArray:=⟨#[112,108,97,110]⟩
def AD:ByteArray:=⟨#[112,114,111,118,101]⟩
def GX:ByteArray:=⟨#[110,101,120,116]⟩
def Br:ByteArray:=⟨#[97,100,118,97,110,99,101]⟩
def sX:ByteArray:=⟨#[101,120,112,108,97,105,110]⟩
def oT:ByteArray:=⟨#[104,97,112,112,101,110,32]⟩
def CE(c:D.Command)(l:ByteArray):Prop:=
 (c=⟨1,0,e00⟩∧l=Gc)∨(c=⟨4,0,e00⟩∧l=AD)∨(c=⟨6,0,e00⟩∧l=GX) ∨
 (∃n,bH n∧c=⟨2,n,e00⟩∧l=aG spB [Br,aH n])∨(∃n,bH n∧c=⟨5,n,e00⟩∧l=aG spB [sX,aH n]) ∨
 (∃e,OkE e∧(evR e).2=0∧c=⟨3,0,e⟩∧l=oT++(evR e).1)
theorem CM(a b:ByteArray):a++(⟨#[32]⟩++b)=aG spB [a,b]:=by rw[lJ,vA];rfl
theorem EN{s t:ByteArray}{a b:UInt8}{x y:List UInt8}(hs:bs s=a::x)(ht:bs t=b::y)(h:a≠b):(s.toList == t.toList)=false:=by rw[beq_eq_false_iff_ne];intro e;rw[Lib.toList_data,Lib.toList_data]at e;have e:bs s=bs t:=e;rw[hs,ht]at e;injection e with e1 _;exact h e1
theorem vI{s:ByteArray}{a:UInt8}{x:List UInt8}(hs:bs s=a::x)(h1:a≠112)(h2:a≠110):uF s=0:=by unfold uF;rw[EN hs (t:=⟨#[112,108,97,110]⟩) rfl h1,EN hs (t:=⟨#[112,114,111,118,101]⟩) rfl h1,EN hs (t:=⟨#[110,101,120,116]⟩) rfl h2];rfl
theorem vU(s t:ByteArray)(ok:Bool)(h1:(⟨(Lib.trimPrefix s.data.toList oT.data.toList).toArray⟩:ByteArray)=t)(h2:Lib.hasPrefix s.data.toList oT.data.toList=ok):PC prog 35 [str s,str oT] (.tup [str t,boo ok]):=by
 refine PC.lib (a:=[.string s,.string oT]) (v:=.tuple #[.string t,.bool ok]) (fun S w=>⟨_,rfl,⟨_,_,rfl,rfl,⟨_,_,rfl,rfl,rfl⟩⟩⟩) fun w _=>(Tryz.strings_CutPrefix s oT w).mono fun e w' ⟨he,hw⟩=>?_
 rw[hw];refine⟨he.trans ?_,Below.refl _ _⟩;rw[h1,h2]
abbrev Q7(k n:Int)(e:D.Event):Row:=⟨68,23,[aS ⟨k,n,e⟩]⟩
theorem CJ{c:D.Command}{l:ByteArray}(h:CE c l)(hs:l.size≤65536):PC prog 15 [str l] (.tup [.agg (aS c),int 0]):=by
 refine pcd func15 rfl rfl ?_;simp only[go_sem];refine aL fun p G hp0 (P:G p=some (Q7 0 0 e00)) N=>?_
 clear N hp0;simp only[go_sem,P];refine bB (HU l) ?_;simp only[go_sem,P];rcases h with⟨rfl,rfl⟩|⟨rfl,rfl⟩|⟨rfl,rfl⟩|⟨n,hn,rfl,rfl⟩|⟨n,hn,rfl,rfl⟩|⟨e,he,h0,rfl,rfl⟩
 ·rw[show uF Gc=1 by decide +kernel];refine aA (fun _=>?_) (fun hb=>absurd hb (by decide));simp only[go_sem,P];refine bF P ⟨Nat.zero_lt_one,rfl,Nat.le_of_ble_eq_true rfl⟩ fun G P1 F=>?_
  simp only[go_sem,P1];exact .refl _
 ·rw[show uF AD=4 by decide +kernel];refine aA (fun _=>?_) (fun hb=>absurd hb (by decide));simp only[go_sem,P];refine bF P ⟨Nat.zero_lt_one,rfl,Nat.le_of_ble_eq_true rfl⟩ fun G P1 F=>?_
  simp only[go_sem,P1];exact .refl _
 ·rw[show uF GX=6 by decide +kernel];refine aA (fun _=>?_) (fun hb=>absurd hb (by decide));simp only[go_sem,P];refine bF P ⟨Nat.zero_lt_one,rfl,Nat.le_of_ble_eq_true rfl⟩ fun G P1 F=>?_
  simp only[go_sem,P1];exact .refl _
 ·have hb:bs (aG spB [Br,aH n])=97::([100,118,97,110,99,101]++bs (cS spB [aH n])):=by rw[aZ,dJ];rfl
  rw[vI hb (by decide) (by decide)];refine aA (fun hb=>absurd hb (by decide)) (fun _=>?_);simp only[go_sem,P];refine bB (vU _ _ false rfl ?_) ?_
  ·rw[show(aG spB [Br,aH n]).data.toList=_ from hb];rfl
  simp only[go_sem,P];refine aA (fun hb=>absurd hb (by decide)) (fun _=>?_);simp only[go_sem,P];refine bB (Am [Br,aH n] (by simp) (fun w hw=>?_) (by omega) (by simp)) ?_
  ·simp only[Xaf,List.not_mem_nil,or_false]at hw;rcases hw with rfl|rfl
   ·decide +kernel
   ·exact eI n
  simp only[go_sem,P];refine aA (fun hb=>absurd hb (by decide)) (fun _=>?_);simp only[go_sem,P];refine⟨⟨by omega,by omega⟩,PC.use (wA n hn) ?_⟩;simp only[go_sem,P];refine aA (fun hb=>absurd hb (by decide)) (fun _=>?_);simp only[go_sem,P];refine⟨⟨by omega,by omega⟩,?_⟩;refine aA (fun _=>?_) (fun hb=>absurd hb (by decide +kernel));simp only[go_sem,P];refine bF P ⟨Nat.zero_lt_one,rfl,Nat.le_of_ble_eq_true rfl⟩ fun G P1 F=>?_
  simp only[go_sem,P1];exact .refl _
 ·have hb:bs (aG spB [sX,aH n])=101::([120,112,108,97,105,110]++bs (cS spB [aH n])):=by rw[aZ,dJ];rfl
  rw[vI hb (by decide) (by decide)];refine aA (fun hb=>absurd hb (by decide)) (fun _=>?_);simp only[go_sem,P];refine bB (vU _ _ false rfl ?_) ?_
  ·rw[show(aG spB [sX,aH n]).data.toList=_ from hb];rfl
  simp only[go_sem,P];refine aA (fun hb=>absurd hb (by decide)) (fun _=>?_);simp only[go_sem,P];refine bB (Am [sX,aH n] (by simp) (fun w hw=>?_) (by omega) (by simp)) ?_
  ·simp only[Xaf,List.not_mem_nil,or_false]at hw;rcases hw with rfl|rfl
   ·decide +kernel
   ·exact eI n
  simp only[go_sem,P];refine aA (fun hb=>absurd hb (by decide)) (fun _=>?_);simp only[go_sem,P];refine⟨⟨by omega,by omega⟩,PC.use (wA n hn) ?_⟩;simp only[go_sem,P];refine aA (fun hb=>absurd hb (by decide)) (fun _=>?_);simp only[go_sem,P];refine⟨⟨by omega,by omega⟩,?_⟩;refine aA (fun hb=>absurd hb (by decide +kernel)) (fun _=>?_);simp only[go_sem,P];refine⟨⟨by omega,by omega⟩,?_⟩;refine aA (fun _=>?_) (fun hb=>absurd hb (by decide +kernel));simp only[go_sem,P];refine bF P ⟨Nat.zero_lt_one,rfl,Nat.le_of_ble_eq_true rfl⟩ fun G P1 F=>?_
  simp only[go_sem,P1];exact .refl _
 ·have hb:bs (oT++(evR e).1)=104::([97,112,112,101,110,32]++bs (evR e).1):=by rw[dJ];rfl
  rw[vI hb (by decide) (by decide)];refine aA (fun hb=>absurd hb (by decide)) (fun _=>?_);simp only[go_sem,P];refine bB (vU _ (evR e).1 true ?_ ?_) ?_
  ·rw[show(oT++(evR e).1).data.toList=_ from hb];rfl
  ·rw[show(oT++(evR e).1).data.toList=_ from hb];rfl
  simp only[go_sem,P];refine aA (fun _=>?_) (fun hb=>absurd hb (by decide));simp only[go_sem,P];refine bB (GR e he h0 (by rw[ByteArray.size_append]at hs;omega)) ?_;simp only[go_sem,P];refine aL fun q G hq0 (Q:G q=some (eM 0 0 0 0 0 o0)) N=>?_
  obtain⟨npq,P⟩:=N P;clear N hq0;simp only[go_sem,P,Q];refine bF Q ⟨Nat.zero_lt_one,rfl,Nat.le_of_ble_eq_true rfl⟩ fun G Q1 F=>?_
  replace P:=F _ _ npq P;replace Q:G q=some ⟨66,21,[bC e]⟩:=Q1;clear F Q1;simp only[go_sem,P,Q];refine aA (fun hb=>absurd hb (by decide)) (fun _=>?_);simp only[go_sem,P,Q];refine bF P ⟨Nat.zero_lt_one,rfl,Nat.le_of_ble_eq_true rfl⟩ fun G P1 F=>?_
  simp only[go_sem,P1];exact .refl _
end Sk
namespace Sp
open Go.Proofs.Tryz
open Go.Proofs.YthbiheckeoknlaaGreatDoor
open Go.Proofs.YthbiheckeoknlaaGreatDoor.Nw (ltB geB cB)
open Go.Proofs.YthbiheckeoknlaaGreatDoor.Sk
open Go.Proofs.YthbiheckeoknlaaGreatDoor.Sc
theorem Rs{s:ByteArray}(h:uF s≠0):∃c,CE c s:=by
 unfold uF at h;split at h
 ·rename_i h1;exact⟨_,.inl ⟨rfl,gI h1⟩⟩
 split at h
 ·rename_i h1;exact⟨_,.inr (.inl ⟨rfl,gI h1⟩)⟩
 split at h
 ·rename_i h1;exact⟨_,.inr (.inr (.inl ⟨rfl,gI h1⟩))⟩
 ·exact absurd rfl h
theorem Al:∀{p s:List UInt8},Lib.hasPrefix s p=true→s=p++s.drop p.length
 | [],s,_=>rfl
 | a::p,[],h=>by simp[Lib.hasPrefix,List.isPrefixOf]at h
 | a::p,b::s,h=>by simp only[Lib.hasPrefix,List.isPrefixOf,Xag,Xan]at h;have:=Al (p:=p) (s:=s) h.2;rw[h.1,Xav,Xaa,List.drop_succ_cons,←this]
theorem Lj{s:ByteArray}(h:Lib.hasPrefix s.data.toList oT.data.toList=true):s=oT++⟨(Lib.trimPrefix s.data.toList oT.data.toList).toArray⟩:=by refine gD ?_;rw[dJ];show s.data.toList=oT.data.toList++Lib.trimPrefix s.data.toList oT.data.toList;unfold Lib.trimPrefix;rw[if_pos h];exact Al h
theorem MS(s:ByteArray)(hs:s.size≤65536):∃(c:D.Command) (er:Int),PC prog 15 [str s] (.tup [.agg (aS c),int er])∧((er=0∧CE c s)∨(er=3∧∀c,¬CE c s)):=by
 by_cases h:∃c,CE c s
 ·obtain⟨c,hc⟩:=h;exact⟨c,0,CJ hc hs,.inl ⟨rfl,hc⟩⟩
 refine⟨⟨0,0,e00⟩,3,?_,.inr ⟨rfl,fun c hc=>h ⟨c,hc⟩⟩⟩;have h0:uF s=0:=Decidable.byContradiction fun h0=>h (Rs h0)
 refine pcd func15 rfl rfl ?_;simp only[go_sem];refine aL fun p G hp0 (P:G p=some (Q7 0 0 e00)) N=>?_
 clear N hp0;simp only[go_sem,P];refine bB (HU s) ?_;simp only[go_sem,P];rw[h0];refine aA (fun hb=>absurd hb (by decide)) (fun _=>?_);simp only[go_sem,P];refine bB (vU s _ _ rfl rfl) ?_;simp only[go_sem,P];refine aA (fun hp=>?_) (fun _=>?_)
 ·have hap:=Lj hp;generalize (⟨(Lib.trimPrefix s.data.toList oT.data.toList).toArray⟩:ByteArray)=t at hap ⊢;have ht:t.size≤65536:=by rw[hap,ByteArray.size_append]at hs;omega
  obtain⟨e,er,hc,hq⟩:=Pv t ht;rcases hq with⟨rfl,h1,h2,h3⟩|⟨rfl,_⟩
  ·exact absurd ⟨_,.inr (.inr (.inr (.inr (.inr ⟨e,h1,h2,rfl,by rw[hap,h3]⟩))))⟩ h
  simp only[go_sem,P];refine bB hc ?_;simp only[go_sem,P];refine aL fun q G hq0 (Q:G q=some (eM 0 0 0 0 0 o0)) N=>?_
  obtain⟨npq,P⟩:=N P;clear N hq0;simp only[go_sem,P,Q];refine bF Q ⟨Nat.zero_lt_one,rfl,Nat.le_of_ble_eq_true rfl⟩ fun G Q1 F=>?_
  replace P:=F _ _ npq P;simp only[go_sem,P];refine aA (fun _=>?_) (fun hb=>absurd hb (by decide));simp only[go_sem,P];refine bF P ⟨Nat.zero_lt_one,rfl,Nat.le_of_ble_eq_true rfl⟩ fun G P1 F=>?_
  simp only[go_sem,P1];exact .refl _
 simp only[go_sem,P];refine(Et s (by omega)).use ?_;rintro _ ⟨l,e,⟨_,_,q3,q4⟩,rfl⟩;simp only[go_sem,P];refine aA (fun _=>?_) (fun he=>?_)
 ·simp only[go_sem,P];refine bF P ⟨Nat.zero_lt_one,rfl,Nat.le_of_ble_eq_true rfl⟩ fun G P1 F=>?_
  simp only[go_sem,P1];exact .refl _
 rw[Xaq]at he;have h1:e=0:=by simpa using he.1
 have h2:l.length=2:=by
  have:((l.map D.bE).length:Int)=2:=by simpa using he.2
  rw[Xab]at this;omega
 match l,h2 with
 | [w,v],_=>
 obtain⟨n,er,hc,hq⟩:=vW v (by have:=(q4 h1).2 v (by simp);omega);have hj:aW w=true→aW v=true→s=aG spB [w,v]:=fun a b=>(q3 h1 (by simp) (fun u hu=>by simp only[Xaf,List.not_mem_nil,or_false]at hu;rcases hu with rfl|rfl <;> assumption)).2.2
 simp only[go_sem,P];refine⟨⟨by omega,by omega⟩,PC.use hc ?_⟩;simp only[go_sem,P];refine aA (fun _=>?_) (fun hb=>?_)
 ·simp only[go_sem,P];refine bF P ⟨Nat.zero_lt_one,rfl,Nat.le_of_ble_eq_true rfl⟩ fun G P1 F=>?_
  simp only[go_sem,P1];exact .refl _
 have hb:er=0:=by simpa using hb
 rcases hq with⟨_,hn,rfl⟩|⟨hq,_⟩;rotate_left
 ·exact absurd hb hq
 simp only[go_sem,P];refine⟨⟨by omega,by omega⟩,?_⟩;refine aA (fun hw=>?_) (fun _=>?_)
 ·have hw:w=Br:=gI hw;subst hw;exact absurd ⟨_,.inr (.inr (.inr (.inl ⟨n,hn,rfl,hj (by decide +kernel) (eI n)⟩)))⟩ h
 simp only[go_sem,P];refine⟨⟨by omega,by omega⟩,?_⟩;refine aA (fun hw=>?_) (fun _=>?_)
 ·have hw:w=sX:=gI hw;subst hw;exact absurd ⟨_,.inr (.inr (.inr (.inr (.inl ⟨n,hn,rfl,hj (by decide +kernel) (eI n)⟩))))⟩ h
 simp only[go_sem,P];refine bF P ⟨Nat.zero_lt_one,rfl,Nat.le_of_ble_eq_true rfl⟩ fun G P1 F=>?_
 simp only[go_sem,P1];exact .refl _
end Sp
namespace Sp
open Go.Proofs.Tryz
open Go.Proofs.YthbiheckeoknlaaGreatDoor
open Go.Proofs.YthbiheckeoknlaaGreatDoor.Nw (ltB geB cB)
open Go.Proofs.YthbiheckeoknlaaGreatDoor.Sk
open Go.Proofs.YthbiheckeoknlaaGreatDoor.Sc
theorem Hh{c:UInt8}(r:List UInt8):∀w p:List UInt8,c∉w→c∉p→(List.isPrefixOf (w++[c]) (p++c::r)=true↔w=p)
 | [],[],_,_=>by simp[List.isPrefixOf]
 | [],b::p,_,h=>by simp only[Xaz,Xav,List.isPrefixOf,Bool.and_true,Xan];exact⟨fun e=>absurd (by simp[e]) h,fun e=>by cases e⟩
 | a::w,[],h,_=>by simp only[Xaz,Xav,List.isPrefixOf,Xag,Xan];exact⟨fun e=>absurd (by simp[e.1]) h,fun e=>by cases e⟩
 | a::w,b::p,h,h'=>by simp only[Xav,List.isPrefixOf,Xag,Xan,List.cons.injEq];rw[Hh r w p (fun x=>h (by simp[x])) fun x=>h' (by simp[x])]
theorem HT{c:UInt8}:∀w p:List UInt8,c∉p→List.isPrefixOf (w++[c]) p=false
 | [],[],_=>rfl
 | [],b::p,h=>by simp only[Xaz,List.isPrefixOf,Bool.and_true,beq_eq_false_iff_ne];exact fun e=>h (by simp[e])
 | a::w,[],_=>rfl
 | a::w,b::p,h=>by simp only[Xav,List.isPrefixOf,Xbd];exact .inr (HT w p fun x=>h (by simp[x]))
def nlS(a:List ByteArray):ByteArray:=gL (a.map (·++nlB))
def kB:ByteArray:=⟨#[98,101,103,105,110]⟩
open Classical in
noncomputable def nT:List ByteArray→Option (List ByteArray×List ByteArray)
  | []=>none
  | p::q=>if q=[]then none else if p=kB then some ([],q)else(nT q).map fun x=>(p::x.1,x.2)
noncomputable def Su:Option (List ByteArray×List ByteArray)→AV
 | none=>.tup [str ⟨#[]⟩,str ⟨#[]⟩,boo false]
 | some (a,b)=>.tup [str (nlS a),str (aG nlB b),boo true]
theorem tO:∀(a q:List ByteArray),q≠[]→aG nlB (a++q)=nlS a++aG nlB q
 | [],q,_=>(xD _).symm
 | x::a,q,h=>by
  have ih:=tO a q h;rw[Xav,show nlS (x::a)=(x++nlB)++nlS a from rfl,bQ,←ih];cases hq:a++q with
  | nil=>exact absurd (List.append_eq_nil_iff.1 hq).2 h
  | cons y r=>rw[lJ,bQ]
theorem OC(a:List ByteArray)(p:ByteArray):nlS (a++[p])=nlS a++(p++nlB):=by unfold nlS;rw[Xal,oZ,List.map_singleton,vX]
theorem Pl(ps:List ByteArray)(hps:ps≠[])(hno:∀p∈ps,(10:UInt8)∉p.data.toList)(hs:(aG nlB ps).size≤65536):PC prog 11 [str (aG nlB ps)] (Su (nT ps)):=by
 generalize hS:aG nlB ps=S at *;refine pcd func11 rfl rfl ?_;simp only[go_sem];refine⟨fun ρ _=>∃a q:List ByteArray,ps=a++q∧q≠[]∧ρ 0=str S∧ρ 5=int (nlS a).size∧nT ps=(nT q).map (fun x=>(a++x.1,x.2)),fun ρ _=>S.size-bO (ρ 5),⟨[],ps,rfl,hps,by simp only[go_sem],(by simp only[go_sem];rfl),by simp⟩,?_⟩;rintro ρ H ⟨a,q,hp,hq,e0,e5,hf⟩;have hj:S=nlS a++aG nlB q:=by rw[←hS,hp,tO a q hq]
 have hz:=congrArg ByteArray.size hj;rw[ByteArray.size_append]at hz;have hnq:∀p∈q,(10:UInt8)∉p.data.toList:=fun p h=>hno p (by rw[hp];simp[h])
 have hr:S.extract (nlS a).size S.size=aG nlB q:=by
  conv=>lhs;rw[hj]
  exact Lp rfl
 have hb6:oS.size=6:=rfl;have hn1:nlB.size=1:=rfl;simp only[go_sem,e0,e5];refine aA (fun hlt=>?_) (fun hge=>?_);rotate_left
 ·have h0 : (aG nlB q).size = 0 := by have:=of_decide_eq_false hge;omega
  have:nT q=none:=by
   match q,hq with
   | [t],_=>rw[nT,if_pos rfl]
   | t::u::r,_=>rw[lQ]at h0;omega
  rw[hf,this];simp only[go_sem];exact .refl _
 have hlt:=of_decide_eq_true hlt;simp only[go_sem,e0,e5];rw[hr];refine⟨⟨by omega,by omega⟩,PC.use (Px _ oS) ?_⟩
 match q,hq with
 | [t],_=>
  have ht:=hnq t (by simp);have e1:aG nlB [t]=t:=by rw[aZ,cY,dP]
  have hd:nT ps=none:=by rw[hf,nT,if_pos rfl];rfl
  rw[hd];rw[e1]at hr hz ⊢;rw[show Lib.hasPrefix t.data.toList oS.data.toList=false from HT (c:=10) [98,101,103,105,110] _ ht];simp only[go_sem,e0,e5];refine aA (fun hb=>absurd hb (by decide)) (fun _=>?_);simp only[go_sem,e0,e5];rw[hr];refine⟨⟨by omega,by omega⟩,PC.use (DB _) ?_⟩;rw[E1 _ ht];simp only[go_sem,e0,e5];refine aA (fun _=>?_) (fun hb=>absurd hb (by decide));simp only[go_sem,e0,e5];exact .refl _
 | p::u::r,_=>
  have ht:=hnq p (by simp);have hsz:=lQ nlB p u r;have hl:(aG nlB (p::u::r)).data.toList=bs p++10::bs (aG nlB (u::r)):=by show bs _=_;rw[lJ,dJ,dJ];rfl
  have hdf:nT (p::u::r)=if p=kB then some ([],u::r)else(nT (u::r)).map fun x=>(p::x.1,x.2):=by rw[nT,if_neg (by simp)]
  have hpre:Lib.hasPrefix (aG nlB (p::u::r)).data.toList oS.data.toList=true↔p=kB:=by rw[hl];refine(Hh (c:=10) (bs (aG nlB (u::r))) [98,101,103,105,110] (bs p) (by decide) ht).trans ⟨fun e=>gD e.symm,fun e=>by rw[e];rfl⟩
  by_cases hbg:p=kB
  ·rw[hpre.2 hbg];rw[hdf,if_pos hbg]at hf;simp only[Option.map_some,Xah]at hf;rw[hf];simp only[go_sem,e0,e5];refine aA (fun _=>?_) (fun hb=>absurd hb (by decide));simp only[go_sem,e0,e5];refine bX [(0,true),(1,true),(2,true),(3,true),(4,true),(5,true),(6,true),(7,true),(8,true),(9,true)] (by kernel_rfl) ?_;have hw6:IntKind.i64.wrap (((nlS a).size:Int)+6)=(((nlS a).size+6:Nat):Int):=by rw[dI (by omega)];omega
   simp only[go_sem,e0,e5,hw6];have h1:S.extract 0 (nlS a).size=nlS a:=by
    conv=>lhs;rw[hj]
    exact Qf rfl
   have hb5:kB.size=5:=rfl;rw[hbg]at hsz;have h2:S.extract ((nlS a).size+6) S.size=aG nlB (u::r):=by
    have:S=(nlS a++(kB++nlB))++aG nlB (u::r):=by rw[hj,hbg,lJ,bQ,bQ]
    conv=>lhs;rw[this]
    exact Lp (by rw[ByteArray.size_append,ByteArray.size_append,hb5,hn1])
   rw[h1,h2];rw[hbg]at hz;exact⟨⟨by omega,by omega⟩,⟨by omega,by omega⟩,.refl _⟩
  ·rw[Bool.eq_false_iff.2 fun h=>hbg (hpre.1 h)];rw[hdf,if_neg hbg]at hf;simp only[go_sem,e0,e5];refine aA (fun hb=>absurd hb (by decide)) (fun _=>?_);simp only[go_sem,e0,e5];rw[hr];refine⟨⟨by omega,by omega⟩,PC.use (DB _) ?_⟩;rw[hl,FF _ _ ht,bY];simp only[go_sem,e0,e5];refine aA (fun hb=>absurd (of_decide_eq_true hb) (by omega)) (fun _=>?_);have hw1:=fM (show p.size≤4611686018427387904 by omega);have hw2:IntKind.i64.wrap (((nlS a).size:Int)+((p.size+1:Nat):Int))=(((nlS a).size+(p.size+1):Nat):Int):=by rw[dI (by omega)];omega
   simp only[go_sem,e0,e5,hw1,hw2];refine⟨⟨a++[p],u::r,by rw[hp];simp,by simp,?_,?_⟩,by simp only[aE];omega⟩
   ·rw[OC,ByteArray.size_append,ByteArray.size_append,hn1]
   ·rw[hf];cases nT (u::r) <;> simp
end Sp
namespace Sk
open Go.Proofs.Tryz
open Go.Proofs.YthbiheckeoknlaaGreatDoor
open Go.Proofs.YthbiheckeoknlaaGreatDoor.Nw (ltB geB cB)
open Go.Proofs.YthbiheckeoknlaaGreatDoor.Sc hiding aW
open Go.RowKit (Below)
theorem Dp(s:ByteArray):PC prog 12 [str s,str ⟨#[10]⟩] (int (s.data.toList.count 10:Nat)):=by
 refine PC.lib (a:=[.string s,.string ⟨#[10]⟩]) (v:=.int .i64 (s.data.toList.count 10:Nat)) (fun S w=>rfl) fun w ht=>?_
 exact(Tryz.strings_Count_one s 10 w).mono fun e w' ⟨he,hw⟩=>⟨he,hw▸Below.refl _ _⟩
theorem jS{α:Type}{P:α→Prop}{a b:List α}(h1:∀f∈a,P f)(h2:∀f∈b,P f):∀f∈a++b,P f:=fun f hf=>(Xap.1 hf).elim (h1 f) (h2 f)
theorem JI{α:Type}{P:α→Prop}:∀f∈([]:List α),P f:=fun f hf=>by simp at hf
theorem jR{α:Type}{P:α→Prop}{b:Bool}{g:α}(h:P g):∀f∈opt b g,P f:=fun f hf=>by
 cases b with
 | false=>simp[opt]at hf
 | true=>simp[opt]at hf;rw[hf];exact h
theorem oF{α β:Type}{P:β→Prop}{f:α→List β}{l:List α}(h:∀a,∀x∈f a,P x):∀x∈l.flatMap f,P x:=fun x hx=>by obtain⟨a,_,h1⟩:=List.mem_flatMap.1 hx;exact h a x h1
theorem Eu{α β:Type}{P:β→Prop}{Q:α→Prop}{f:α→β}{l:List α}(h:∀a,Q a→P (f a))(h0:∀a∈l,Q a):∀x∈l.map f,P x:=fun x hx=>by obtain⟨a,ha,rfl⟩:=Xat.1 hx;exact h a (h0 a ha)
theorem Do(x:Instance):∀f∈iI x,f.err≠0:=by
 unfold iI yL lN lE jY kW mJ;refine jS (jS (jS ?_ ?_) ?_) ?_ <;> refine Eu (Q:=fun f=>f.err≠0) (fun f h=>h) ?_
 ·refine jS (jS (jS (jR (by decide)) (oF fun i=>?_)) (jR (by decide))) (oF fun i=>?_)
  ·unfold cC;split
   ·intro f hf;simp at hf;rw[hf];simp
   ·exact jR (by simp)
  ·unfold vD
   repeat' apply jS
   all_goals first|exact JI|exact jR (by simp)|exact oF fun i=>jR (by simp)|skip
   refine Eu (Q:=fun f=>f.err≠0) (fun f h=>h) ?_;unfold jH;refine jS (jR (by simp)) (oF fun i=>?_);unfold dX;exact jS (jR (by simp)) (jR (by simp))
 ·refine jS (jR (by decide)) (oF fun i=>Eu (Q:=fun n=>n≠0) (fun n h=>h) ?_);unfold fW
  repeat' apply jS
  all_goals first|exact JI|exact jR (by decide)
 ·refine jS (jR (by decide)) (oF fun i=>Eu (Q:=fun n=>n≠0) (fun n h=>h) ?_);unfold fE
  repeat' apply jS
  all_goals first|exact JI|exact jR (by decide)
 ·refine jS (jS (jR (by decide)) (oF fun i=>?_)) (jS (jR (by decide)) (oF fun i=>?_)) <;> unfold dB <;> split
  ·intro f hf;simp at hf;rw[hf];simp
  ·exact jR (by simp)
  ·intro f hf;simp at hf;rw[hf];simp
  ·exact jR (by simp)
theorem Dm:∀{l:List D.Command},AG l=0→∀c∈l,(iX c).2=0
 | [],_,c,hc=>by simp at hc
 | a::r,h,c,hc=>by
  rw[AG]at h;by_cases h0:(iX a).2=0
  ·rw[if_pos h0]at h;rcases Xaf.1 hc with rfl|hc
   ·exact h0
   ·exact Dm h c hc
  ·rw[if_neg h0]at h;exact absurd h h0
theorem Sh{s:D.Script}(h0:(B5 s).2=0):iI s.inst=[]∧(iD s.inst).1=mC s.inst∧(∀c∈s.commands,(iX c).2=0)∧(B5 s).1=gL ((items s.inst++[Item.fin]).map Item.ln)++(oS++gL (s.commands.map BZ))∧(B5 s).1.size≤65536:=by
 unfold B5 at h0 ⊢;by_cases h1:(iD s.inst).2=0
 ·rw[if_pos h1]at h0 ⊢;by_cases h2:AG s.commands=0
  ·rw[if_pos h2]at h0 ⊢;by_cases h3:65536<(EB s).size
   ·rw[if_pos h3]at h0;cases h0
   rw[if_neg h3];unfold iD at h1;cases hc:iI s.inst with
   | cons f l=>rw[hc]at h1;exact absurd h1 (Do s.inst f (by rw[hc];simp))
   | nil=>
    rw[hc]at h1;simp only at h1;have hp:(iD s.inst).1=mC s.inst:=by
     unfold iD;rw[hc];simp only;by_cases h4:65536<(mC s.inst).size
     ·rw[if_pos h4]at h1;cases h1
     ·rw[if_neg h4]
    refine⟨rfl,hp,?_,?_,by simp only;omega⟩
    ·exact Dm h2
    ·simp only[EB,hp,vY,bQ]
  ·rw[if_neg h2]at h0;exact absurd h0 h2
 ·rw[if_neg h1]at h0;exact absurd h0 h1
end Sk
namespace Sp
open Go.Proofs.Tryz
open Go.Proofs.YthbiheckeoknlaaGreatDoor
open Go.Proofs.YthbiheckeoknlaaGreatDoor.Nw (ltB geB cB eT)
open Go.Proofs.YthbiheckeoknlaaGreatDoor.Sk
open Go.Proofs.YthbiheckeoknlaaGreatDoor.Sc hiding aW
open Classical in
noncomputable def cmF (s:ByteArray):Option D.Command:=if h:∃c,CE c s then some h.choose else none
theorem HM{s:ByteArray}{c:D.Command}(h:cmF s=some c):CE c s:=by
 unfold cmF at h;split at h
 ·rename_i hx;injection h with h;subst h;exact hx.choose_spec
 ·cases h
theorem O8{s:ByteArray}(h:cmF s=none)(c:D.Command):¬CE c s:=by
 unfold cmF at h;split at h
 ·cases h
 ·rename_i hx;exact fun hc=>hx ⟨c,hc⟩
noncomputable def lX:List ByteArray→Nat→List D.Command→Nat ⊕ List D.Command
 | [],_,cs=>.inr cs
 | t::q,n,cs=>if q=[]then(if t.size=0 then .inr cs else .inl n)else match cmF t with
   | none=>.inl n
   | some c=>lX q (n+1) (cs++[c])
noncomputable def rU:Nat ⊕ Instance→Instance×Nat×Int
 | .inl n=>(x0,n,3)
 | .inr x=>match iI x with
   | []=>(x,0,0)
   | f::_=>(x0,0,f.err)
theorem Ot(r:Nat ⊕ Instance):xN r=.tup [.agg (aO (rU r).1),int (rU r).2.1,int (rU r).2.2]:=by
 cases r with
 | inl n=>rfl
 | inr x=>cases hc:iI x <;> simp only[xN,rU,hc] <;> rfl
noncomputable def vS(ps:List ByteArray):D.Script×Nat×Int:=match nT ps with
 | none=>(nN,ps.length,3)
 | some (a,b)=>match rU (kS (a++[⟨#[]⟩]) 0 1 x0)with
   | (x,n,e)=>if e≠0 then(nN,n,e)else match lX b (a.length+2) []with
     | .inl n=>(nN,n,3)
     | .inr cs=>(⟨x,cs⟩,0,0)
noncomputable def Tm(r:D.Script×Nat×Int):AV:=.tup [.agg (bR r.1),int r.2.1,int r.2.2]
theorem uX:∀(l:List ByteArray),l≠[]→(∀p∈l,(10:UInt8)∉p.data.toList)→(aG nlB l).data.toList.count 10+1=l.length
 | [],h,_=>absurd rfl h
 | [t],_,h=>by rw[show aG nlB [t]=t by rw[aZ,cY,dP],List.count_eq_zero_of_not_mem (h t (by simp))];rfl
 | t::u::r,_,h=>by
  have ih:(bs (aG nlB (u::r))).count 10+1=(u::r).length:=uX (u::r) (by simp) fun p hp=>h p (by simp[hp])
  have e:(aG nlB (t::u::r)).data.toList=bs t++10::bs (aG nlB (u::r)):=by show bs _=_;rw[lJ,dJ,dJ];rfl
  rw[e,List.count_append,List.count_eq_zero_of_not_mem (h t (by simp)),List.count_cons_self];simp only[Xaa]at ih ⊢;omega
theorem yB:∀{ps a b:List ByteArray},nT ps=some (a,b)→ps=a++kB::b∧b≠[]
 | [],_,_,h=>by simp[nT]at h
 | p::q,a,b,h=>by
  rw[nT]at h;split at h
  ·cases h
  rename_i hq;split at h
  ·rename_i hp;injection h with h;injection h with h1 h2;subst h1 h2;exact⟨by rw[hp];rfl,hq⟩
  ·cases hd:nT q with
   | none=>rw[hd]at h;cases h
   | some ab=>obtain⟨a',b'⟩:=ab;rw[hd]at h;simp only[Option.map_some,Option.some.injEq,Prod.mk.injEq]at h;obtain⟨rfl,rfl⟩:=h;obtain⟨h1,h2⟩:=yB hd;exact⟨by rw[h1];rfl,h2⟩
theorem MX(ps:List ByteArray)(hps:ps≠[])(hno:∀p∈ps,(10:UInt8)∉p.data.toList)(hs:(aG nlB ps).size≤65536):PC prog 5 [str (aG nlB ps)] (Tm (vS ps)):=by
 have hdv:=Pl ps hps hno hs;have hcj:=uX ps hps hno;refine pcb (fun t=>t == 46) func5 rfl rfl ?_;simp only[go_sem];refine aL fun r HGr hr0 (R:HGr r=some (⟨34,7,[bR nN]⟩)) N=>?_
 clear N hr0;simp only[go_sem,R];refine aA (fun hb=>absurd (of_decide_eq_true hb) (by omega)) (fun _=>?_);simp only[go_sem,R];refine bB hdv ?_;cases hd:nT ps with
 | none=>
  have hF:vS ps=(nN,ps.length,3):=by unfold vS;rw[hd]
  rw[hF];simp only[go_sem,R,Su];refine aA (fun _=>?_) (fun hb=>absurd hb (by decide));simp only[go_sem,R];refine bB (Dp _) ?_;have hw:=fM (show(aG nlB ps).data.toList.count 10≤4611686018427387904 by have:((aG nlB ps).data.toList).length=_:=bY _;have:=List.count_le_length (a:=(10:UInt8)) (l:=(aG nlB ps).data.toList);omega);simp only[go_sem,R,hw,hcj];refine bF R ⟨Nat.zero_lt_one,rfl,Nat.le_of_ble_eq_true rfl⟩ fun G R1 F=>?_
  simp only[go_sem,R1];exact .refl _
 | some ab=>
 obtain⟨a,b⟩:=ab;obtain⟨hab,hb0⟩:=yB hd;have hj:aG nlB ps=nlS a++aG nlB (kB::b):=by rw[hab,tO a _ (by simp)]
 have hz:=congrArg ByteArray.size hj;rw[ByteArray.size_append]at hz;have hfirst:nlS a=aG nlB (a++[⟨#[]⟩]):=by rw[tO a [⟨#[]⟩] (by simp),show aG nlB [⟨#[]⟩]=⟨#[]⟩from rfl,dP]
 have hsp:=O9 (a++[⟨#[]⟩]) (by simp) (fun p hp=>by
  rcases Xap.1 hp with h|h
  ·exact hno p (by rw[hab];simp[h])
  ·rw[Xbb.1 h];decide) (by rw[←hfirst];omega)
 rw[Ot,←hfirst]at hsp;have hF:vS ps=match rU (kS (a++[⟨#[]⟩]) 0 1 x0)with
  | (x,n,e)=>if e≠0 then(nN,n,e)else match lX b (a.length+2) []with
   | .inl n=>(nN,n,3)
   | .inr cs=>(⟨x,cs⟩,0,0):=by unfold vS;rw[hd]
 generalize rU (kS (a++[⟨#[]⟩]) 0 1 x0)=s3 at hsp hF;obtain⟨sx,sn,se⟩:=s3;simp only at hsp hF;simp only[go_sem,R,Su];refine aA (fun hb=>absurd hb (by decide)) (fun _=>?_);simp only[go_sem,R];refine bB hsp ?_;simp only[go_sem,R];refine aL fun q G hq0 (Q:G q=some ⟨31,6,[aO x0]⟩) N=>?_
 obtain⟨nrq,R⟩:=N R;clear N hq0;simp only[go_sem,R,Q];refine bF Q ⟨Nat.zero_lt_one,rfl,Nat.le_of_ble_eq_true rfl⟩ fun G Q1 F=>?_
 replace R:=F _ _ nrq R;replace Q:G q=some ⟨31,6,[aO sx]⟩:=Q1;clear F Q1;simp only[go_sem,R,Q];refine aA (fun he=>?_) (fun he=>?_)
 ·have he:se≠0:=by simpa using he
  rw[if_pos he]at hF;rw[hF];simp only[go_sem,R];refine bF R ⟨Nat.zero_lt_one,rfl,Nat.le_of_ble_eq_true rfl⟩ fun G R1 F=>?_
  simp only[go_sem,R1];exact .refl _
 have he:se=0:=by simpa using he
 rw[if_neg (by rw[he];simp)]at hF;simp only[go_sem,R,Q];refine aL fun n1 G1 _ _ N=>?_
 replace R:=N R;obtain⟨q1,R⟩:=R;clear N;refine aL fun n2 G2 _ _ N=>?_
 replace R:=N R;obtain⟨q2,R⟩:=R;clear N;refine aL fun n3 G3 _ _ N=>?_
 replace R:=N R;obtain⟨q3,R⟩:=R;clear N;refine aL fun n4 G4 _ _ N=>?_
 replace R:=N R;obtain⟨q4,R⟩:=R;clear N;refine aL fun n5 G5 _ _ N=>?_
 replace R:=N R;obtain⟨q5,R⟩:=R;clear N;refine aL fun n6 G6 _ _ N=>?_
 replace R:=N R;obtain⟨q6,R⟩:=R;clear N;refine aL fun n7 G7 _ (C:G7 n7=some (Jd [])) N=>?_
 replace R:=N R;obtain⟨q7,R⟩:=R;clear N;refine cN fun u hu0=>?_
 simp only[go_sem,R,C];refine oL hu0 (by simp[aO]) fun G (U:G u=some (⟨34,7,[yC sx n7]⟩)) N=>?_
 replace R:=N R;obtain⟨nru,R⟩:=R;replace C:=N C;obtain⟨nnu,C⟩:=C;clear N hu0;simp only[go_sem,R,U,C];refine bB (Dp (nlS a)) ?_;have hca:(nlS a).data.toList.count 10=a.length:=by
  have:=uX (a++[⟨#[]⟩]) (by simp) fun p hp=>by
   rcases Xap.1 hp with h|h
   ·exact hno p (by rw[hab];simp[h])
   ·rw[Xbb.1 h];decide
  rw[←hfirst,Xac,List.length_singleton]at this;omega
 have hal:a.length≤65536:=by have h1:=List.count_le_length (a:=(10:UInt8)) (l:=(nlS a).data.toList);have h2:(nlS a).data.toList.length=(nlS a).size:=bY _;omega
 have hbl:(aG nlB b).size≤65536∧b.length≤65537:=by
  have h1:(aG nlB (kB::b)).size=5+(1+(aG nlB b).size):=by
   cases b with
   | nil=>exact absurd rfl hb0
   | cons u t=>exact lQ nlB kB u t
  have h2:b.length≤(aG nlB b).size+1:=fX 10 b;omega
 have hnb:∀p∈b,(10:UInt8)∉p.data.toList:=fun p hp=>hno p (by rw[hab];simp[hp])
 have hw2:IntKind.i64.wrap ((a.length:Int)+2)=((a.length+2:Nat):Int):=by rw[dI (by omega)];omega
 simp only[go_sem,R,U,C,hca,hw2];refine⟨fun ρ H=>∃(bs:List ByteArray) (cs:List D.Command) (n v:Nat),bs≠[]∧ρ 2=.op r 0 0∧ρ 11=.op u 0 0∧ρ 6=str (aG nlB bs)∧ρ 12=int v∧H u=some ⟨34,7,[yC sx n]⟩∧H n=some (Jd cs)∧H r=some ⟨34,7,[bR nN]⟩∧u≠n∧r≠n∧lX bs v cs=lX b (a.length+2) []∧(∀p∈bs,(10:UInt8)∉p.data.toList)∧(aG nlB bs).size≤65536∧cs.length+bs.length≤65537∧v+bs.length≤200000,fun ρ _=>Sk.sz0 (ρ 6),⟨b,[],n7,a.length+2,hb0,by simp only[go_sem],by simp only[go_sem],by simp only[go_sem],by simp only[go_sem],U,C,R,nnu.symm,by assumption,rfl,hnb,hbl.1,by simp only[List.length_nil];omega,by omega⟩,?_⟩;clear U C R hw2 hbl hb0 hnb;rintro ρ H ⟨qs,cs,n,v,hq,e2,e11,e6,e12,U,C,R,hun,hrn,hf,hnq,hqs,hcl,hv⟩;simp only[go_sem,e2,e11,e6,e12];rw[eT];have wrong:∀n:Nat,lX b (a.length+2) []=.inl n→vS ps=(nN,n,3):=fun n h=>by rw[hF,h]
 match qs,hq with
 | [t],_=>
  rw[show aG nlB [t]=t by rw[aZ,cY,dP]]at *;rw[lX,if_pos rfl]at hf;by_cases ht:t.size=0
  ·rw[if_pos ht]at hf;rw[←hf]at hF;rw[hF];refine aA (fun hb=>absurd hb (by rw[decide_eq_true (by omega)];decide)) (fun _=>?_);simp only[go_sem,e2,e11,e6,e12,U];refine bF R ⟨Nat.zero_lt_one,rfl,Nat.le_of_ble_eq_true rfl⟩ fun G R1 F=>?_
   replace C:=F _ _ hrn.symm C;simp only[go_sem,e2,R1];refine .tup _ _ (.cons _ _ _ _ ?_ (.cons _ _ _ _ (.refl _) (.cons _ _ _ _ (.refl _) .nil)));exact .agg _ _ (.cons _ _ _ _ (.refl _) (.cons _ _ _ _ (.refl _) (.cons _ _ _ _ (.refl _) (.cons _ _ _ _ (.refl _) (.cons _ _ _ _ (.refl _) (.cons _ _ _ _ (.refl _) (.cons _ _ _ _ (.row _ _ _ C (ConvE.refl _)) .nil)))))))
  ·rw[if_neg ht]at hf;rw[wrong v hf.symm];refine aA (fun _=>?_) (fun hb=>absurd hb (by rw[decide_eq_false (by omega)];decide));simp only[go_sem,e2,e11,e6,e12];refine bB (LL t _ _ _ (by omega) (IP t (hnq t (by simp)))) ?_;simp only[go_sem,e2,e11,e6,e12];refine aA (fun _=>?_) (fun hb=>absurd hb (by decide));simp only[go_sem,e2,e11,e6,e12];refine bF R ⟨Nat.zero_lt_one,rfl,Nat.le_of_ble_eq_true rfl⟩ fun G R1 F=>?_
   simp only[go_sem,e2,e12,R1];exact .refl _
 | t::w::qr,_=>
  have ht:=hnq t (by simp);have hsz:=lQ nlB t w qr;have hnl:nlB.size=1:=rfl;have hcut:Lib.cut (aG nlB (t::w::qr)).data.toList [10]=(Sk.bs t,Sk.bs (aG nlB (w::qr)),true):=by rw[show(aG nlB (t::w::qr)).data.toList=Sk.bs t++10::Sk.bs (aG nlB (w::qr))by rw[lJ];show Sk.bs _=_;rw[dJ,dJ];rfl];exact LN _ _ ht
  rw[lX,if_neg (by simp)]at hf;refine aA (fun _=>?_) (fun hb=>absurd hb (by rw[decide_eq_false (by omega)];decide));simp only[go_sem,e2,e11,e6,e12];refine bB (LL _ _ _ _ (by omega) hcut) ?_;simp only[go_sem,e2,e11,e6,e12];refine aA (fun hb=>absurd hb (by decide)) (fun _=>?_);simp only[go_sem,e2,e11,e6,e12];cases hcm:cmF t with
  | none=>
   rw[hcm]at hf;rw[wrong v hf.symm];obtain⟨c,er,hc,hq⟩:=MS t (by omega);rcases hq with⟨_,hq⟩|⟨rfl,_⟩
   ·exact absurd hq (O8 hcm c)
   refine bB hc ?_;simp only[go_sem,e2,e11,e6,e12];refine aL fun j G hj (J:G j=some (Q7 0 0 e00)) N=>?_
   obtain⟨nrj,R⟩:=N R;clear N hj;simp only[go_sem,e2,e11,e6,e12,J,R];refine bF J ⟨Nat.zero_lt_one,rfl,Nat.le_of_ble_eq_true rfl⟩ fun G J1 F=>?_
   replace R:=F _ _ nrj R;clear F;simp only[go_sem,e2,e11,e6,e12,R];refine aA (fun _=>?_) (fun hb=>absurd hb (by decide));simp only[go_sem,e2,e11,e6,e12,R];refine bF R ⟨Nat.zero_lt_one,rfl,Nat.le_of_ble_eq_true rfl⟩ fun G R1 F=>?_
   simp only[go_sem,e2,e12,R1];exact .refl _
  | some c=>
   rw[hcm]at hf;simp only at hf;refine bB (CJ (HM hcm) (show t.size≤65536 by omega)) ?_;simp only[go_sem,e2,e11,e6,e12];refine aL fun j G hj (J:G j=some (Q7 0 0 e00)) N=>?_
   obtain⟨nuj,U⟩:=N U;obtain⟨nnj,C⟩:=N C;obtain⟨nrj,R⟩:=N R;clear N hj;simp only[go_sem,e2,e11,e6,e12,J,U,R];refine bF J ⟨Nat.zero_lt_one,rfl,Nat.le_of_ble_eq_true rfl⟩ fun G J1 F=>?_
   replace U:=F _ _ nuj U;replace C:=F _ _ nnj C;replace R:=F _ _ nrj R;replace J:G j=some ⟨68,23,[aS c]⟩:=J1;clear J1 F;simp only[go_sem,e2,e11,e6,e12,J,U,R];refine aA (fun hb=>absurd hb (by decide)) (fun _=>?_);have hwr:=cH v;simp only[Xaa]at hcl hv;simp only[go_sem,e2,e11,e6,e12,J,U,R];refine mH C ⟨rfl,rfl⟩ (by simp only[go_sem,aS]) (by simp only[Xab,Xaa,List.length_nil];omega) fun j' G2 A N2=>?_
   obtain⟨nuj',U⟩:=N2 _ _ hun U;obtain⟨nrj',R⟩:=N2 _ _ hrn R;simp only[go_sem,e2,e11,e6,e12,U,R];refine bU Te U ⟨Nat.zero_lt_one,rfl,Nat.le_of_ble_eq_true rfl⟩ fun G3 U3 F3=>?_
   have A3:=F3 _ _ nuj'.symm A;have R3:=F3 _ _ nru R;simp only[go_sem,e2,e11,e6,e12,hwr];refine⟨⟨w::qr,cs++[c],j',v+1,by simp,rfl,rfl,U3,A3.trans (by simp only[Jd,Xal];rfl),R3,nuj',nrj',hf,fun p hp=>hnq p (by simp[hp]),by omega,by simp only[Xac,Xaa,List.length_nil];omega,by simp only[Xaa];omega⟩,?_⟩;show(aG nlB (w::qr)).size<(aG nlB (t::w::qr)).size;omega
end Sp
namespace Sp
open Go.Proofs.YthbiheckeoknlaaGreatDoor
open Go.Proofs.YthbiheckeoknlaaGreatDoor.Sk
open Go.Proofs.YthbiheckeoknlaaGreatDoor.Sc hiding aW
theorem Rz{it:Sk.Item}(h:it.rank=6):it=.fin:=by cases it <;> first|rfl|(simp[Sk.Item.rank]at h;done)
theorem PZ:∀(ls:List ByteArray) (m n:Nat) (y x:Instance),kS (ls++[⟨#[]⟩]) m n y=.inr x →
  ∃L:List Sk.Item,Srt L∧(∀it∈L,qD it∧it.rank<6∧m≤it.rank+1)∧ls=(L++[Sk.Item.fin]).map Sk.Item.line∧x=L.foldl eH y
 | [],m,n,y,x,h=>by rw[Xaz,kS,if_pos rfl]at h;cases h
 | l::r,m,n,y,x,h=>by
  rw[Xav,kS,if_neg (by simp)]at h;cases hi:itF l with
  | none=>rw[hi]at h;cases h
  | some it=>
   rw[hi]at h;simp only at h;obtain⟨ok,hl⟩:=Gf hi;split at h
   ·cases h
   rename_i hm;split at h
   ·rename_i h6;split at h
    ·rename_i hr;injection h with h;have hr:r=[]:=by
      cases r with
      | nil=>rfl
      | cons u t=>simp at hr
     subst hr;rw[Rz h6]at hl;exact⟨[],List.Pairwise.nil,by simp,by rw[hl];rfl,h.symm⟩
    ·cases h
   ·rename_i h6;obtain⟨L,h1,h2,h3,h4⟩:=PZ r _ _ _ _ h;have hlt:=it.rank_lt;refine⟨it::L,List.pairwise_cons.2 ⟨fun b hb=>?_,h1⟩,fun b hb=>?_,by rw[h3,hl];rfl,h4⟩
    ·have:=(h2 b hb).2.2;omega
    ·rcases Xaf.1 hb with rfl|hb
     ·exact⟨ok,by omega,by omega⟩
     ·obtain⟨a1,a2,a3⟩:=h2 b hb;exact⟨a1,a2,by omega⟩
theorem JY{y:Instance}{it:Sk.Item}(h6:it.rank<6)(h:∀z∈items y,z.rank≤it.rank):items (eH y it)=items y++[it]:=by
 obtain⟨⟨p,a⟩,t,o,c,d⟩:=y;have nil:∀{α:Type} (f:α→Sk.Item) (l:List α),(∀v∈l,f v∈items ⟨⟨p,a⟩,t,o,c,d⟩)→(∀v,it.rank<(f v).rank)→l=[]:=fun f l hm hr=>by
  cases l with
  | nil=>rfl
  | cons v r=>have:=h _ (hm v (by simp));have:=hr v;omega
 have ha:=nil .arc a (fun v hv=>by simp[items,hv]);have ht:=nil .type t (fun v hv=>by simp[items,hv]);have ho:=nil .order o (fun v hv=>by simp[items,hv]);have hc:=nil .apart c (fun v hv=>by simp[items,hv]);have hd:=nil .before d (fun v hv=>by simp[items,hv]);clear nil h;cases it with
 | place s=>rw[ha (by simp[Sk.Item.rank]),ht (by simp[Sk.Item.rank]),ho (by simp[Sk.Item.rank]),hc (by simp[Sk.Item.rank]),hd (by simp[Sk.Item.rank])];simp[items,eH]
 | arc s=>rw[ht (by simp[Sk.Item.rank]),ho (by simp[Sk.Item.rank]),hc (by simp[Sk.Item.rank]),hd (by simp[Sk.Item.rank])];simp[items,eH]
 | type s=>rw[ho (by simp[Sk.Item.rank]),hc (by simp[Sk.Item.rank]),hd (by simp[Sk.Item.rank])];simp[items,eH]
 | order s=>rw[hc (by simp[Sk.Item.rank]),hd (by simp[Sk.Item.rank])];simp[items,eH]
 | apart s=>rw[hd (by simp[Sk.Item.rank])];simp[items,eH]
 | before s=>simp[items,eH]
 | fin=>simp[Sk.Item.rank]at h6
theorem Bj:∀(L:List Sk.Item) (y:Instance),Srt L→(∀it∈L,it.rank<6)→(∀z∈items y,∀it∈L,z.rank≤it.rank)→items (L.foldl eH y)=items y++L
 | [],y,_,_,_=>by simp
 | it::L,y,hs,h6,h=>by
  obtain⟨h1,h2⟩:=List.pairwise_cons.1 hs;have e:=JY (h6 it (by simp)) fun z hz=>h z hz it (by simp)
  rw[List.foldl_cons,Bj L _ h2 (fun v hv=>h6 v (by simp[hv])) (fun z hz v hv=>?_),e]
  ·simp
  ·rw[e]at hz;rcases Xap.1 hz with hz|hz
   ·exact h z hz v (by simp[hv])
   ·rw[Xbb.1 hz];exact h1 v hv
theorem Pn{ls:List ByteArray}{m n:Nat}{x:Instance}(h:kS (ls++[⟨#[]⟩]) m n x0=.inr x):nlS ls=mC x∧∀it∈items x,qD it:=by
 obtain⟨L,h1,h2,h3,h4⟩:=PZ ls m n x0 x h;have e:items x=L:=by rw[h4,Bj L x0 h1 (fun it hi=>(h2 it hi).2.1) (by simp[items,x0])];simp[items,x0]
 refine⟨?_,fun it hi=>(h2 it (by rw[←e];exact hi)).1⟩;rw[vY,e,h3];unfold nlS;rw[List.map_map];rfl
theorem Rf{c:D.Command}{s:ByteArray}(h:CE c s):OkC c∧iX c=(s,0):=by
 have z:bH 0:=by simp[bH]
 have zo:OkOrder o0:=⟨by decide,by decide,by simp[o0],⟨z,z,z,z⟩,⟨z,z,z,z⟩,z,z,z,z,z⟩;have ze:OkE e00:=⟨z,z,z,z,zo⟩;rcases h with⟨rfl,rfl⟩|⟨rfl,rfl⟩|⟨rfl,rfl⟩|⟨n,hn,rfl,rfl⟩|⟨n,hn,rfl,rfl⟩|⟨e,he,h0,rfl,rfl⟩
 ·exact⟨⟨z,ze⟩,by decide +kernel⟩
 ·exact⟨⟨z,ze⟩,by decide +kernel⟩
 ·exact⟨⟨z,ze⟩,by decide +kernel⟩
 ·refine⟨⟨hn,ze⟩,?_⟩;rw[←CM];unfold iX;simp[show iA e00=true by decide +kernel];rfl
 ·refine⟨⟨hn,ze⟩,?_⟩;rw[←CM];unfold iX;simp[show iA e00=true by decide +kernel];rfl
 ·refine⟨⟨z,he⟩,?_⟩;unfold iX;simp[h0];rfl
theorem Li:∀(b:List ByteArray) (n:Nat) (cs cs':List D.Command),b≠[]→lX b n cs=.inr cs'→∃new,cs'=cs++new∧aG nlB b=gL (new.map BZ)∧(∀c∈new,OkC c∧(iX c).2=0)∧new.length≤b.length
 | [],_,_,_,h,_=>absurd rfl h
 | t::q,n,cs,cs',_,h=>by
  rw[lX]at h;split at h
  ·rename_i hq;subst hq;split at h
   ·rename_i ht;injection h with h;refine⟨[],by rw[h];simp,?_,by simp,by simp⟩;rw[aZ,cY,dP];exact gD (Xbh (by rw[bY,ht]))
   ·cases h
  ·rename_i hq;cases hc:cmF t with
   | none=>rw[hc]at h;cases h
   | some c=>
    rw[hc]at h;obtain⟨h1,h2⟩:=Rf (HM hc);obtain⟨new,e1,e2,e3,e4⟩:=Li q _ _ _ hq h;refine⟨c::new,by rw[e1];simp,?_,fun d hd=>?_,by simp only[Xaa];omega⟩
    ·obtain⟨u,r,rfl⟩:∃u r,q=u::r:=by cases q with|nil=>exact absurd rfl hq|cons u r=>exact⟨u,r,rfl⟩
     rw[lJ,e2,Xak,gL,BZ,h2,bQ];rfl
    ·rcases Xaf.1 hd with rfl|hd
     ·exact⟨h1,by rw[h2]⟩
     ·exact e3 d hd
theorem OJ:∀(ps:List ByteArray) (m n k:Nat) (y x:Instance),GI k y→(∀p∈ps,p.size≤1048576)→kS ps m n y=.inr x→GI (k+ps.length) x
 | [],_,_,_,_,_,_,_,h=>by rw[kS]at h;cases h
 | l::r,m,n,k,y,x,g,hs,h=>by
  rw[kS]at h;split at h
  ·cases h
  cases hi:itF l with
  | none=>rw[hi]at h;cases h
  | some it=>
   rw[hi]at h;simp only at h;obtain⟨ok,hl⟩:=Gf hi;split at h
   ·cases h
   split at h
   ·split at h
    ·injection h with h;subst h;exact⟨by have:=g.cnt;simp only[Xaa];omega,g.place,g.arc,g.type,g.order,g.apart,g.before⟩
    ·cases h
   ·have:=OJ r _ _ (k+1) _ x (g.step ok (by rw[←hl];exact hs l (by simp))) (fun p hp=>hs p (by simp[hp])) h;rw[show k+(l::r).length=k+1+r.length by simp only[Xaa];omega];exact this
theorem OU{ps:List ByteArray}{sc:D.Script}{n:Nat}(hs:(aG nlB ps).size≤65536)(h:vS ps=(sc,n,0)):
  n=0∧B5 sc=(aG nlB ps,0)∧GI (ps.length+1) sc.inst∧(∀c∈sc.commands,OkC c)∧sc.commands.length≤ps.length:=by
 unfold vS at h;cases hd:nT ps with
 | none=>rw[hd]at h;cases h
 | some ab=>
  obtain⟨a,b⟩:=ab;rw[hd]at h;obtain⟨hab,hb⟩:=yB hd;simp only at h;cases hg:kS (a++[⟨#[]⟩]) 0 1 x0 with
  | inl k=>rw[hg,show rU (.inl k)=(x0,k,3)from rfl]at h;simp only at h;rw[if_pos (by decide)]at h;cases h
  | inr x=>
   rw[hg]at h;have hx:iI x=[]:=by
    cases hc:iI x with
    | nil=>rfl
    | cons f fs=>have hf:=Do x f (by rw[hc];simp);rw[show rU (.inr x)=(x0,0,f.err)by simp only[rU,hc]]at h;simp only at h;rw[if_pos hf]at h;injection h with _ h;injection h with _ h;exact absurd h hf
   rw[show rU (.inr x)=(x,0,0)by simp only[rU,hx]]at h;simp only at h;rw[if_neg (by simp)]at h;cases hc:lX b (a.length+2) []with
   | inl k=>rw[hc]at h;cases h
   | inr cs=>
    rw[hc]at h;simp only[Prod.mk.injEq,and_true]at h;obtain⟨rfl,rfl⟩:=h;obtain⟨new,e1,e2,e3,e4⟩:=Li b _ _ _ hb hc;obtain rfl:new=cs:=by rw[e1,Xaz]
    obtain⟨t1,t2⟩:=Pn hg;have hj:aG nlB ps=mC x++oS++gL (new.map BZ):=by
     rw[hab,tO a _ (by simp),t1,←e2];obtain⟨u,r,rfl⟩:∃u r,b=u::r:=by cases b with|nil=>exact absurd rfl hb|cons u r=>exact⟨u,r,rfl⟩
     rw[lJ,show oS=kB++nlB by decide +kernel];simp only[bQ]
    have hz:=congrArg ByteArray.size hj;rw[ByteArray.size_append,ByteArray.size_append]at hz;have hp:iD x=(mC x,0):=by unfold iD;rw[hx];simp only;rw[if_neg (by omega)]
    have hl:a.length+1≤ps.length∧b.length≤ps.length:=by rw[hab];simp only[Xac,Xaa];omega
    refine⟨rfl,?_,?_,fun c hc=>(e3 c hc).1,by show new.length≤_;omega⟩
    ·have hT : EB ⟨x, new⟩ = aG nlB ps := by unfold EB;rw[show iD (⟨x,new⟩:D.Script).inst=(mC x,0)from hp];exact hj.symm
     unfold B5;rw[if_pos (show(iD (⟨x,new⟩:D.Script).inst).2=0 by rw[show iD (⟨x,new⟩:D.Script).inst=(mC x,0)from hp]),if_pos (Bh fun c hc=>(e3 c hc).2),hT,if_neg (by omega)]
    ·have:=OJ _ _ _ 0 _ _ GI.nil (fun p hp=>?_) hg
     ·refine⟨?_,this.place,this.arc,this.type,this.order,this.apart,this.before⟩;have:=this.cnt;simp only[Xac,List.length_singleton]at this;show _≤ps.length+1;simp only at this ⊢;omega
     ·rcases Xap.1 hp with h|h
      ·have:=bW nlB (w:=p) (l:=ps) (by rw[hab];simp[h]);omega
      ·rw[Xbb.1 h];decide
noncomputable def sR:List ByteArray→Nat→Nat→Instance→Nat ⊕ Instance
 | [],_,n,_=>.inl n
 | l::r,m,n,x=>if r=[]then(if m=7∧l.size=0 then .inr x else .inl n)else match itF l with
   | none=>.inl n
   | some it=>if it.rank+1<m∨m=7 then .inl n else sR r (it.rank+1) (n+1) (eH x it)
theorem Ss(r:List ByteArray)(h:r≠[])(n:Nat)(x:Instance):sR r 7 n x=if r=[⟨#[]⟩]then .inr x else .inl n:=by
 cases r with
 | nil=>exact absurd rfl h
 | cons l r=>
  rw[sR];by_cases hr:r=[]
  ·subst hr;rw[if_pos rfl];by_cases hl:l.size=0
   ·have:l=⟨#[]⟩:=gD (Xbh (by rw[bY,hl]));rw[if_pos ⟨rfl,hl⟩,if_pos (by rw[this])]
   ·rw[if_neg fun h=>hl h.2,if_neg];intro e;injection e with e _;exact hl (by rw[e];rfl)
  ·rw[if_neg hr,if_neg (by simp[hr])];cases itF l with
   | none=>rfl
   | some it=>simp only[or_true,if_true]
theorem L3:∀(ps:List ByteArray) (m n:Nat) (x:Instance),m<7→sR ps m n x=kS ps m n x
 | [],_,_,_,_=>by rw[sR,kS]
 | l::r,m,n,x,hm=>by
  rw[sR,kS];by_cases hr:r=[]
  ·rw[if_pos hr,if_pos hr,if_neg fun h=>by omega]
  rw[if_neg hr,if_neg hr];cases itF l with
  | none=>rfl
  | some it=>
   simp only;by_cases h1:it.rank+1<m
   ·rw[if_pos (.inl h1),if_pos h1]
   rw[if_neg fun h=>h.elim h1 fun h=>by omega,if_neg h1];have hlt:=it.rank_lt;by_cases h6:it.rank=6
   ·rw[if_pos h6,h6,Ss r hr,show eH x it=x by rw[Rz h6];rfl]
   ·rw[if_neg h6];exact L3 r _ _ _ (by omega)
theorem Rx{kind:Nat}{ws:List ByteArray}{e:D.Event}(h:PE kind ws e)(hn:kind=1→dM e.order.name=true):EvT (aG spB (Sc.aW (kind:Nat)::ws)) e:=by
 refine⟨RN h,?_⟩;rcases h with⟨rfl,t,o,h1,h2,h3,h4,rfl,rfl⟩|⟨rfl,t,a,h1,h2,rfl,rfl⟩|⟨rfl,t,a,b,n,h1,h2,h3,h4,rfl,rfl⟩|⟨rfl,t,a,h1,h2,rfl,rfl⟩|⟨rfl,t,a,n,h1,h2,h3,rfl,rfl⟩
 ·have hn:=hn rfl;simp only at hn;have hc:iQ ⟨t,1,0,0,0,o⟩=true:=by simp[iQ]
  have h5:¬3<o.load.length:=by omega
  have e:evR ⟨t,1,0,0,0,o⟩=(aG spB (kP ⟨t,1,0,0,0,o⟩),0):=by unfold evR;simp[hc,h4,hn,h5]
  rw[e];exact⟨rfl,rfl⟩
 ·have hc:iQ ⟨t,2,a,0,0,o0⟩=true:=by simp[iQ,show pJ o0=true by decide +kernel]
  have e:evR ⟨t,2,a,0,0,o0⟩=(aG spB (gK ⟨t,2,a,0,0,o0⟩),0):=by unfold evR;simp[hc]
  rw[e];exact⟨rfl,rfl⟩
 ·have hc:iQ ⟨t,3,a,b,n,o0⟩=true:=by simp[iQ,show pJ o0=true by decide +kernel]
  have e:evR ⟨t,3,a,b,n,o0⟩=(aG spB (gK ⟨t,3,a,b,n,o0⟩),0):=by unfold evR;simp[hc]
  rw[e];exact⟨rfl,rfl⟩
 ·have hc:iQ ⟨t,4,a,0,0,o0⟩=true:=by simp[iQ,show pJ o0=true by decide +kernel]
  have e:evR ⟨t,4,a,0,0,o0⟩=(aG spB (gK ⟨t,4,a,0,0,o0⟩),0):=by unfold evR;simp[hc]
  rw[e];exact⟨rfl,rfl⟩
 ·have hc:iQ ⟨t,5,a,0,n,o0⟩=true:=by simp[iQ,show pJ o0=true by decide +kernel]
  have e:evR ⟨t,5,a,0,n,o0⟩=(aG spB (gK ⟨t,5,a,0,n,o0⟩),0):=by unfold evR;simp[hc]
  rw[e];exact⟨rfl,rfl⟩
end Sp
namespace Sp
open Go.Proofs.Tryz
open Go.Proofs.YthbiheckeoknlaaGreatDoor
open Go.Proofs.YthbiheckeoknlaaGreatDoor.Nw (ltB geB eT cB)
open Go.Proofs.YthbiheckeoknlaaGreatDoor.Sk
open Go.Proofs.YthbiheckeoknlaaGreatDoor.Sc hiding aW
theorem OY(w:ByteArray):∃k:Nat,PC prog 97 [str w] (int k)∧((k=0∧∀i<6,0<i→w≠Sc.aW (i:Nat))∨(0<k∧k<6∧w=Sc.aW (k:Nat))):=by
 have main:∀k:Nat,0<k→k≤6→(∀j<k,0<j→w≠Sc.aW (j:Nat))→∀r:Nat,(k<6→r=k∧w=Sc.aW (k:Nat))→(k=6→r=0)→PC prog 97 [str w] (int r):=by
  intro i hi0 hi hne r h1 h2;refine pcd func97 rfl rfl ?_;simp only[go_sem];refine⟨fun ρ H=>∃k:Nat,0<k∧k≤i∧ρ 0=str w∧ρ 3=int k,fun ρ _=>7-bO (ρ 3),⟨1,by omega,by omega,by simp only[go_sem],(by simp only[go_sem];rfl)⟩,?_⟩;rintro ρ H ⟨k,hk0,hk,e0,e3⟩;simp only[go_sem,e0,e3];refine aA (fun hlt=>?_) (fun hge=>?_)
  ·have hlt : k < 6 := by have:=of_decide_eq_true hlt;omega
   simp only[go_sem,e0,e3];refine bB (Ef (k:Nat)) ?_;simp only[go_sem,e0,e3];refine aA (fun hb=>?_) (fun hb=>?_)
   ·have hb:=fP hb;have hki:k=i:=by
     rcases Xbc k i with h|h
     ·exact absurd hb.symm (hne k h hk0)
     ·omega
    subst hki;obtain⟨rfl,_⟩:=h1 hlt;simp only[go_sem,e0,e3];exact .refl _
   ·have hki : k ≠ i := fun e => by subst e;rw[←(h1 hlt).2]at hb;simp at hb
    simp only[go_sem,e0,e3,cH k];exact⟨⟨k+1,by omega,by omega,rfl⟩,by simp only[aE];omega⟩
  ·have : k = 6 := by have:=of_decide_eq_false hge;omega
   rw[h2 (by omega)];simp only[go_sem];exact .refl _
 by_cases h:∃i<6,0<i∧w=Sc.aW (i:Nat)
 ·obtain⟨i,hi,hi0,hw⟩:=h;refine⟨i,main i hi0 (by omega) (fun j hj hj0 e=>?_) i (fun _=>⟨rfl,hw⟩) (fun e=>by omega),.inr ⟨hi0,hi,hw⟩⟩;have:=wB j (by omega) i hi hj0 hi0;rw[←e,←hw,beq_self_eq_true]at this;have:=of_decide_eq_true this.symm;omega
 ·have hno:∀i<6,0<i→w≠Sc.aW (i:Nat):=fun i hi h0 e=>h ⟨i,hi,h0,e⟩
  exact⟨0,main 6 (by omega) (by omega) hno 0 (fun h=>by omega) (fun _=>rfl),.inl ⟨rfl,hno⟩⟩
def PEN(kind:Nat)(ws:List ByteArray)(e:D.Event):Prop:=PE kind ws e∧(kind=1→dM e.order.name=true)
theorem KD(k:Nat)(hk0:0<k)(hk6:k<6)(t:Int)(ht:bH t)(w:ByteArray)(l':List ByteArray)(hl:l'.length≤1048575)(hs:∀p∈w::l',p.size≤1048576):UC prog 98 [.agg (bC ⟨t,k,0,0,0,o0⟩),.sl ((w::l').map D.bE)] fun r=>∃(e:D.Event) (ok:Bool),((ok=true→PEN k (aH t::w::l') e)∧(ok=false→∀e,¬PEN k (aH t::w::l') e))∧r=.tup [.agg (bC e),boo ok]:=by
 refine UC.body (c:=f98.body.getD .skip) (fun t=>t == 2) mixed func98 rfl (by kernel_rfl) ?_;unfold f98;simp only[Xai];simp only[go_sem];refine aL fun p G hp (P:G p=some (eM t k 0 0 0 o0)) N=>?_
 clear N hp;simp only[go_sem];refine aL fun q G hq (Q:G q=some (eM 0 0 0 0 0 o0)) N=>?_
 obtain⟨npq,P⟩:=N P;clear N hq;simp only[go_sem,P,Q];refine aA (fun hk=>?_) (fun hk=>?_)
 ·have hk:k=1:=by have:=eq_of_beq hk;omega
  subst hk;simp only[go_sem,P,Q];refine(Nb w l' hl hs).use ?_;rintro _ ⟨o,ok,⟨q1,q2⟩,rfl⟩;simp only[go_sem,P,Q];refine aL fun s G hs (S:G s=some ⟨64,16,[aB o0]⟩) N=>?_
  obtain⟨nps,P⟩:=N P;obtain⟨nqs,Q⟩:=N Q;clear N hs;simp only[go_sem,P,Q,S];refine bF S ⟨Nat.zero_lt_one,rfl,Nat.le_of_ble_eq_true rfl⟩ fun G S1 F=>?_
  replace P:=F _ _ nps P;replace Q:=F _ _ nqs Q;replace S:G s=some ⟨64,16,[aB o]⟩:=S1;clear F S1;simp only[go_sem,P,Q,S];refine bF P ⟨Nat.zero_lt_one,rfl,Nat.le_of_ble_eq_true rfl⟩ fun G P1 F=>?_
  replace Q:=F _ _ npq.symm Q;replace P:G p=some (eM t 1 0 0 0 o):=P1;clear F P1;simp only[go_sem,P,Q];refine bF Q ⟨Nat.zero_lt_one,rfl,Nat.le_of_ble_eq_true rfl⟩ fun G Q1 F=>?_
  simp only[go_sem,Q1];refine⟨_,⟨⟨t,1,0,0,0,o⟩,ok,⟨fun h=>?_,fun h e he=>?_⟩,rfl⟩,.refl _⟩
  ·obtain⟨⟨p1,p2,p3,p4⟩,p5⟩:=q1 h;exact⟨.inl ⟨rfl,t,o,ht,p1,p2,p3,by rw[p4],rfl⟩,fun _=>p5⟩
  ·obtain⟨he,hn⟩:=he;rcases he with⟨_,t2,o2,_,p1,p2,p3,p4,rfl⟩|⟨h,_⟩|⟨h,_⟩|⟨h,_⟩|⟨h,_⟩
   ·exact q2 h o2 ⟨⟨p1,p2,p3,(List.cons.inj p4).2⟩,hn rfl⟩
   all_goals exact absurd h (by decide)
 have hk1:k≠1:=fun e=>by rw[e]at hk;exact absurd hk (by decide)
 have nums:∀e,PEN k (aH t::w::l') e→∃ns:List Int,(∀n∈ns,bH n)∧w::l'=ns.map aH∧((k=2∨k=4)→ns.length=1)∧(k=3→ns.length=3)∧(k=5→ns.length=2):=fun e ⟨he,_⟩=>by
  rcases he with⟨h,_⟩|⟨rfl,t2,a,_,h1,h2,_⟩|⟨rfl,t2,a,b,n,_,h1,h2,h3,h4,_⟩|⟨rfl,t2,a,_,h1,h2,_⟩|⟨rfl,t2,a,n,_,h1,h2,h3,_⟩
  ·exact absurd h hk1
  ·exact⟨[a],by simpa using h1,(List.cons.inj h2).2,by simp,by simp,by simp⟩
  ·exact⟨[a,b,n],by simp[h1,h2,h3],(List.cons.inj h4).2,by simp,by simp,by simp⟩
  ·exact⟨[a],by simpa using h1,(List.cons.inj h2).2,by simp,by simp,by simp⟩
  ·exact⟨[a,n],by simp[h1,h2],(List.cons.inj h3).2,by simp,by simp,by simp⟩
 simp only[go_sem,P,Q];refine(G8 (w::l') (by simp only[Xaa];omega) hs).use ?_;rintro _ ⟨ns,ok,⟨q1,q2⟩,rfl⟩;have no:∀{G:aC},(∀e,¬PEN k (aH t::w::l') e)→∃r,(∃(e:D.Event) (ok:Bool),((ok=true→PEN k (aH t::w::l') e)∧(ok=false→∀e,¬PEN k (aH t::w::l') e))∧r=.tup [.agg (bC e),boo ok])∧Conv G (.tup [.agg (bC ⟨t,k,0,0,0,o0⟩),boo false]) r:=fun h=>⟨_,⟨_,false,⟨(fun h=>by cases h),fun _=>h⟩,rfl⟩,.refl _⟩
 simp only[go_sem,P,Q];refine aA (fun hb=>?_) (fun hb=>?_)
 ·simp only[go_sem,P,Q];refine bF Q ⟨Nat.zero_lt_one,rfl,Nat.le_of_ble_eq_true rfl⟩ fun G Q1 F=>?_
  simp only[go_sem,Q1];refine no fun e he=>?_
  obtain⟨ms,h1,h2,_⟩:=nums e he;exact(q2 (by simpa using hb)).2 ms h1 h2
 have hok:ok=true:=by simpa using hb
 subst hok;obtain⟨r1,r2⟩:=q1 rfl;have same:∀e,PEN k (aH t::w::l') e→((k=2∨k=4)→ns.length=1)∧(k=3→ns.length=3)∧(k=5→ns.length=2):=fun e he=>by obtain⟨ms,h1,h2,h3⟩:=nums e he;rw[BH (r1.symm.trans h2)];exact h3
 have hk2:k=2∨k=3∨k=4∨k=5:=by omega
 clear hb hk nums q1 q2;simp only[go_sem,P,Q];refine aA (fun hb=>?_) (fun hb1=>?_)
 ·simp only[Xag,Xba,Xan]at hb;have hn:ns.length=1:=by omega
  match ns,hn with
  | [a],_=>
  simp only[go_sem,P,Q];refine⟨⟨by omega,by omega⟩,?_⟩;refine bU so3 P ⟨Nat.zero_lt_one,rfl,Nat.le_of_ble_eq_true rfl⟩ fun G P1 F=>?_
  replace Q:=F _ _ npq.symm Q;replace P:G p=some (eM t k a 0 0 o0):=P1;clear F P1;simp only[go_sem,P,Q];refine bF Q ⟨Nat.zero_lt_one,rfl,Nat.le_of_ble_eq_true rfl⟩ fun G Q1 F=>?_
  simp only[go_sem,Q1];refine⟨_,⟨⟨t,k,a,0,0,o0⟩,true,⟨fun _=>⟨?_,fun h=>absurd h hk1⟩,(fun h=>by cases h)⟩,rfl⟩,.refl _⟩;rw[r1];rcases hb.1 with h|h
  ·exact .inr (.inl ⟨by omega,t,a,ht,r2 _ (by simp),rfl,by rw[h]⟩)
  ·exact .inr (.inr (.inr (.inl ⟨by omega,t,a,ht,r2 _ (by simp),rfl,by rw[h]⟩)))
 simp only[go_sem,P,Q];refine aA (fun hb=>?_) (fun hb2=>?_)
 ·simp only[Xag,Xan]at hb;have hn:ns.length=3:=by omega
  match ns,hn with
  | [a,b,n],_=>
  simp only[go_sem,P,Q];refine⟨⟨by omega,by omega⟩,?_⟩;refine bU so3 P ⟨Nat.zero_lt_one,rfl,Nat.le_of_ble_eq_true rfl⟩ fun G P1 F=>?_
  replace Q:=F _ _ npq.symm Q;replace P:G p=some (eM t k a 0 0 o0):=P1;clear F P1;simp only[go_sem,P,Q];refine⟨⟨by omega,by omega⟩,?_⟩;refine bU so3 P ⟨Nat.zero_lt_one,rfl,Nat.le_of_ble_eq_true rfl⟩ fun G P1 F=>?_
  replace Q:=F _ _ npq.symm Q;replace P:G p=some (eM t k a b 0 o0):=P1;clear F P1;simp only[go_sem,P,Q];refine⟨⟨by omega,by omega⟩,?_⟩;refine bU so3 P ⟨Nat.zero_lt_one,rfl,Nat.le_of_ble_eq_true rfl⟩ fun G P1 F=>?_
  replace Q:=F _ _ npq.symm Q;replace P:G p=some (eM t k a b n o0):=P1;clear F P1;simp only[go_sem,P,Q];refine bF Q ⟨Nat.zero_lt_one,rfl,Nat.le_of_ble_eq_true rfl⟩ fun G Q1 F=>?_
  simp only[go_sem,Q1];refine⟨_,⟨⟨t,k,a,b,n,o0⟩,true,⟨fun _=>⟨?_,fun h=>absurd h hk1⟩,(fun h=>by cases h)⟩,rfl⟩,.refl _⟩;rw[r1];exact .inr (.inr (.inl ⟨by omega,t,a,b,n,ht,r2 _ (by simp),r2 _ (by simp),r2 _ (by simp),rfl,by rw[hb.1]⟩))
 simp only[go_sem,P,Q];refine aA (fun hb=>?_) (fun hb3=>?_)
 ·simp only[Xag,Xan]at hb;have hn:ns.length=2:=by omega
  match ns,hn with
  | [a,n],_=>
  simp only[go_sem,P,Q];refine⟨⟨by omega,by omega⟩,?_⟩;refine bU so3 P ⟨Nat.zero_lt_one,rfl,Nat.le_of_ble_eq_true rfl⟩ fun G P1 F=>?_
  replace Q:=F _ _ npq.symm Q;replace P:G p=some (eM t k a 0 0 o0):=P1;clear F P1;simp only[go_sem,P,Q];refine⟨⟨by omega,by omega⟩,?_⟩;refine bU so3 P ⟨Nat.zero_lt_one,rfl,Nat.le_of_ble_eq_true rfl⟩ fun G P1 F=>?_
  replace Q:=F _ _ npq.symm Q;replace P:G p=some (eM t k a 0 n o0):=P1;clear F P1;simp only[go_sem,P,Q];refine bF Q ⟨Nat.zero_lt_one,rfl,Nat.le_of_ble_eq_true rfl⟩ fun G Q1 F=>?_
  simp only[go_sem,Q1];refine⟨_,⟨⟨t,k,a,0,n,o0⟩,true,⟨fun _=>⟨?_,fun h=>absurd h hk1⟩,(fun h=>by cases h)⟩,rfl⟩,.refl _⟩;rw[r1];exact .inr (.inr (.inr (.inr ⟨by omega,t,a,n,ht,r2 _ (by simp),r2 _ (by simp),rfl,by rw[hb.1]⟩)))
 simp only[go_sem,P,Q];refine bF Q ⟨Nat.zero_lt_one,rfl,Nat.le_of_ble_eq_true rfl⟩ fun G Q1 F=>?_
 simp only[go_sem,Q1];refine no fun e he=>?_
 obtain⟨g1,g2,g3⟩:=same e he;simp only[Xbd,Xaq,beq_eq_false_iff_ne]at hb1 hb2 hb3;rcases hk2 with h|h|h|h
 ·have:=g1 (.inl h);omega
 ·have:=g2 h;omega
 ·have:=g1 (.inr h);omega
 ·have:=g3 h;omega
theorem Rb{kind:Nat}{ws:List ByteArray}{e:D.Event}(h:PE kind ws e):e.kind=(kind:Nat):=by rcases h with⟨rfl,t,o,_,_,_,_,_,rfl⟩|⟨rfl,t,a,_,_,_,rfl⟩|⟨rfl,t,a,b,n,_,_,_,_,_,rfl⟩|⟨rfl,t,a,_,_,_,rfl⟩|⟨rfl,t,a,n,_,_,_,_,rfl⟩ <;> rfl
theorem Ql{e:D.Event}(h0:(evR e).2=0)(hk:e.kind=1):dM e.order.name=true:=by
 cases hn:dM e.order.name with
 | true=>rfl
 | false=>
  exfalso;unfold evR at h0;rw[if_neg (by omega),if_pos hk]at h0;split at h0
  ·cases h0
  split at h0 <;> cases h0
theorem PS{s:ByteArray}{e:D.Event}(h:EvT s e):∃(kind:Nat) (ws:List ByteArray),PEN kind ws e∧s=aG spB (Sc.aW (kind:Nat)::ws)∧∀w∈ws,aW w=true:=by obtain⟨h1,h2,rfl⟩:=h;obtain⟨kind,ws,q1,q2,q3⟩:=RL h1 h2;refine⟨kind,ws,⟨q1,fun hk=>Ql h2 ?_⟩,q2,q3⟩;rw[Rb q1,hk];rfl
theorem S6{kind:Nat}{ws:List ByteArray}{e:D.Event}(h:PE kind ws e):∃t r,bH t∧ws=aH t::r∧r≠[]:=by
 rcases h with⟨_,t,o,h,_,_,_,rfl,_⟩|⟨_,t,a,h,_,rfl,_⟩|⟨_,t,a,b,n,h,_,_,_,rfl,_⟩|⟨_,t,a,h,_,rfl,_⟩|⟨_,t,a,n,h,_,_,rfl,_⟩
 all_goals exact⟨t,_,h,rfl,by simp⟩
theorem DA{kind:Nat}{ws:List ByteArray}{e:D.Event}(h:PEN kind ws e):∀w∈ws,aW w=true:=by
 obtain⟨h,hn⟩:=h;rcases h with⟨rfl,t,o,_,_,_,_,rfl,rfl⟩|⟨_,t,a,_,_,rfl,_⟩|⟨_,t,a,b,n,_,_,_,_,rfl,_⟩|⟨_,t,a,_,_,rfl,_⟩|⟨_,t,a,n,_,_,_,rfl,_⟩
 ·intro w hw;rcases Xaf.1 hw with rfl|hw
  ·exact eI _
  rcases Xaf.1 hw with rfl|hw
  ·exact CO (hn rfl)
  ·obtain⟨n,_,rfl⟩:=Xat.1 hw;exact eI n
 all_goals
  intro w hw;simp only[Xaf,List.not_mem_nil,or_false]at hw
  first|(rcases hw with rfl|rfl <;> exact eI _)|(rcases hw with rfl|rfl|rfl <;> exact eI _)|(rcases hw with rfl|rfl|rfl|rfl <;> exact eI _)
theorem Jk(s:ByteArray)(hs:s.size≤65536):UC prog 47 [str s] fun r=>∃(e:D.Event) (er:Int),((er=0∧EvT s e)∨(er=3∧∀e,¬EvT s e))∧r=.tup [.agg (bC e),int er]:=by
 refine UC.body (c:=f47.body.getD .skip) (fun _=>false) mixed func47 rfl (by kernel_rfl) ?_;unfold f47;simp only[Xai];simp only[go_sem];refine aL fun p G hp0 (P:G p=some (eM 0 0 0 0 0 o0)) N=>?_
 clear N hp0;simp only[go_sem,P];refine aA (fun hb=>absurd (of_decide_eq_true hb) (by omega)) (fun _=>?_);simp only[go_sem,P];refine(Bm s (by omega)).use ?_;rintro _ ⟨l,e,⟨⟨w1,w2,w3,w4⟩,w5⟩,rfl⟩;have no:∀{G:aC},(∀e,¬EvT s e)→∃r,(∃(e:D.Event) (er:Int),((er=0∧EvT s e)∨(er=3∧∀e,¬EvT s e))∧r=.tup [.agg (bC e),int er])∧Conv G (.tup [.agg (bC ⟨0,0,0,0,0,o0⟩),int 3]) r:=fun h=>⟨_,⟨_,3,.inr ⟨rfl,h⟩,rfl⟩,.refl _⟩
 have isW:∀ev,EvT s ev→e=0∧∃(kind:Nat) (t:Int) (r:List ByteArray),0<kind∧kind<6∧bH t∧l=Sc.aW (kind:Nat)::aH t::r∧r≠[]∧PEN kind (aH t::r) ev:=fun ev h=>by
  obtain⟨kind,ws,q1,q2,q3⟩:=PS h;have hp:=q1.1.pos;obtain⟨t,r,ht,rfl,hr⟩:=S6 q1.1;obtain⟨g1,g2⟩:=w2 (Sc.aW (kind:Nat)::aH t::r) ⟨by simp,fun w hw=>by
   rcases Xaf.1 hw with rfl|hw
   ·exact tX _ hp.2.1 hp.1
   ·exact q3 w hw,q2⟩
  exact⟨g1,kind,t,r,hp.1,hp.2.1,ht,g2,hr,q1⟩
 obtain⟨k,hq,hk⟩:∃k:Nat,(∀G:aC,(e != 0||decide ((l.length:Int)<3))=false→dE prog 97 [((l.map D.bE).getD 0 []).getD 0 .any] G (int k))∧(∀w0 lr,l=w0::lr→PC prog 97 [str w0] (int k)∧((k=0∧∀i<6,0<i→w0≠Sc.aW (i:Nat))∨(0<k∧k<6∧w0=Sc.aW (k:Nat)))):=by
  cases l with
  | nil=>exact⟨0,fun _ h=>absurd h (by simp),fun _ _ h=>by cases h⟩
  | cons w0 lr=>obtain⟨k,h1,h2⟩:=OY w0;exact⟨k,fun _ _=>h1.q rfl,fun _ _ h=>by injection h with h _;subst h;exact⟨h1,h2⟩⟩
 have hlen:(e != 0||decide ((l.length:Int)<3))=false→e=0∧3≤l.length:=fun h=>by rw[Xaq]at h;exact⟨by simpa using h.1,by have:=of_decide_eq_false h.2;omega⟩
 simp only[go_sem,P];refine⟨fun h=>?_,fun h=>?_,_,hq _,?_⟩
 ·have:=(hlen h).2;cases l with
  | nil=>exact absurd this (by decide)
  | cons w0 lr=>exact⟨⟨by omega,by simp only[Xaa];omega⟩,rfl⟩
 ·have:=(hlen h).2;cases l with
  | nil=>exact absurd this (by decide)
  | cons w0 lr=>exact Nat.zero_lt_one
 simp only[go_sem,P];have kindI:∀ev,EvT s ev→∃(kind:Nat) (t:Int) (r:List ByteArray),0<kind∧kind<6∧bH t∧l=Sc.aW (kind:Nat)::aH t::r∧r≠[]∧PEN kind (aH t::r) ev∧k=kind∧e=0:=fun ev h=>by
  obtain⟨g0,kind,t,r,g1,g2,g3,g4,g5,g6⟩:=isW ev h;refine⟨kind,t,r,g1,g2,g3,g4,g5,g6,?_,g0⟩;rcases(hk _ _ g4).2 with⟨_,h⟩|⟨h1,h2,h3⟩
  ·exact absurd rfl (h kind g2 g1)
  ·have:=wB kind g2 k h2 g1 h1;rw[←h3,beq_self_eq_true]at this;exact(of_decide_eq_true this.symm).symm
 refine aA (fun hb=>?_) (fun hb=>?_)
 ·simp only[go_sem,P];refine bF P ⟨Nat.zero_lt_one,rfl,Nat.le_of_ble_eq_true rfl⟩ fun G P1 F=>?_
  simp only[go_sem,P1];refine no fun ev hev=>?_
  obtain⟨kind,t,r,g1,g2,g3,g4,g5,g6,g7,g0⟩:=kindI ev hev;have hr:0<r.length:=Xbf.2 g5;rw[g0,g4,g7]at hb;simp only[Xaa,Xba,bne_iff_ne,decide_eq_true_eq,Xan]at hb;omega
 rw[Xaq]at hb;obtain⟨he,hl3⟩:=hlen hb.1;have hk0:k≠0:=fun h=>by rw[h]at hb;exact absurd hb.2 (by decide)
 clear hb hlen hq;subst he;obtain⟨w40,w41⟩:=w4 rfl
 match l,hl3 with
 | v0::v1::v2::lr,_=>
 obtain⟨hkc,hkd⟩:=hk _ _ rfl;obtain⟨hkp,hk6,hv0⟩:0<k∧k<6∧v0=Sc.aW (k:Nat):=by
  rcases hkd with⟨h,_⟩|h
  ·exact absurd h hk0
  ·exact h
 obtain⟨n,er,hc,hnq⟩:=qF v1 (by have:=w41 v1 (by simp);omega);simp only[go_sem,P];refine⟨⟨by omega,by omega⟩,PC.use hc ?_⟩;simp only[go_sem,P];refine aA (fun hb=>?_) (fun hb=>?_)
 ·simp only[go_sem,P];refine bF P ⟨Nat.zero_lt_one,rfl,Nat.le_of_ble_eq_true rfl⟩ fun G P1 F=>?_
  simp only[go_sem,P1];refine no fun ev hev=>?_
  obtain⟨kind,t,r,g1,g2,g3,g4,_⟩:=kindI ev hev;rcases hnq with⟨h,_⟩|⟨_,h⟩
  ·rw[h]at hb;exact absurd hb (by decide)
  ·exact h t g3 (List.cons.inj (List.cons.inj g4).2).1
 have her:er=0:=by simpa using hb
 subst her;obtain⟨hn,rfl⟩:bH n∧v1=aH n:=by
  rcases hnq with⟨_,h1,h2⟩|⟨h,_⟩
  ·exact⟨h1,h2⟩
  ·exact absurd rfl h
 clear hb hnq hc;have hfd:=KD k hkp hk6 n hn v2 lr (by simp only[Xaa]at w40;omega) (fun p hp=>by have:=w41 p (by simp[hp]);omega);simp only[go_sem,P];refine lO [] (.q 0 (.q 1 (.q 2 (.q 3 (.q 4 (.q 5 (.q 6 (.q 7 (.a2 8 (.q 9 (.q 10 (.q 11 (.a1 12 (.a1 13 (.q 14 .nil)))))) 12 (.a1 8 (.q 9 (.q 10 (.q 11 (.a1 13 (.q 14 .nil))))))))))))))) (by simp) (by kernel_rfl) fun Hp Hr _ hr _ _=>?_
 obtain rfl:Hr=G:=funext fun k=>hr k (by simp)
 simp only[go_sem,P];refine⟨⟨by omega,by omega⟩,_,hkc.q rfl,?_⟩;simp only[go_sem,P];refine⟨⟨by omega,jA (f:=D.bE) (n:=1) (fun _=>rfl) lr⟩,?_,?_⟩
 ·simp only[go_sem,P];refine hfd.use ?_;rintro _ ⟨ev,ok,⟨p1,p2⟩,rfl⟩;have bad:∀{G:aC},ok=false→∃r,(∃(e:D.Event) (er:Int),((er=0∧EvT s e)∨(er=3∧∀e,¬EvT s e))∧r=.tup [.agg (bC e),int er])∧Conv G (.tup [.agg (bC ⟨0,0,0,0,0,o0⟩),int 3]) r:=fun h=>no fun ev2 hev=>by obtain⟨kind,t,r,g1,g2,g3,g4,g5,g6,g7,_⟩:=kindI ev2 hev;have e2:=(List.cons.inj g4).2;rw[g7]at p2;exact p2 h ev2 (by rw[e2];exact g6)
  have good:∀{G:aC},ok=true→∃r,(∃(e:D.Event) (er:Int),((er=0∧EvT s e)∨(er=3∧∀e,¬EvT s e))∧r=.tup [.agg (bC e),int er])∧Conv G (.tup [.agg (bC ev),int 0]) r:=fun h=>by
   have hp:=p1 h;refine⟨_,⟨ev,0,.inl ⟨rfl,?_⟩,rfl⟩,.refl _⟩;have hall:∀w∈Sc.aW (k:Nat)::aH n::v2::lr,aW w=true:=fun w hw=>by
    rcases Xaf.1 hw with rfl|hw
    ·exact tX _ hk6 hkp
    ·exact DA hp w hw
   have hsj:=(w3 rfl (by simp) (by rw[hv0];exact hall)).2.2;rw[hsj,hv0];exact Rx hp.1 hp.2
  simp only[go_sem,P];refine aL fun q G hq0 (Q:G q=some (eM 0 0 0 0 0 o0)) N=>?_
  obtain⟨npq,P⟩:=N P;clear N hq0;simp only[go_sem,P,Q];refine bF Q ⟨Nat.zero_lt_one,rfl,Nat.le_of_ble_eq_true rfl⟩ fun G Q1 F=>?_
  replace P:=F _ _ npq P;replace Q:G q=some ⟨66,21,[bC ev]⟩:=Q1;clear F Q1;simp only[go_sem,P,Q];refine cV fun _ Hm _ hm2=>?_
  obtain rfl:Hm=G:=funext fun k=>hm2 k (by simp)
  simp only[go_sem,P,Q];refine aA (fun hb=>?_) (fun hb=>?_)
  ·simp only[go_sem,P,Q];refine bF P ⟨Nat.zero_lt_one,rfl,Nat.le_of_ble_eq_true rfl⟩ fun G P1 F=>?_
   simp only[go_sem,P1];exact bad (by simpa using hb)
  ·simp only[go_sem,P,Q];refine bF P ⟨Nat.zero_lt_one,rfl,Nat.le_of_ble_eq_true rfl⟩ fun G P1 F=>?_
   simp only[go_sem,P1];exact good (by simpa using hb)
 ·simp only[go_sem,P];refine aL fun q G hq0 (Q:G q=some (eM 0 0 0 0 0 o0)) N=>?_
  obtain⟨npq,P⟩:=N P;clear N hq0;simp only[go_sem,P,Q];refine hfd.use ?_;rintro _ ⟨ev,ok,⟨p1,p2⟩,rfl⟩;have bad:∀{G:aC},ok=false→∃r,(∃(e:D.Event) (er:Int),((er=0∧EvT s e)∨(er=3∧∀e,¬EvT s e))∧r=.tup [.agg (bC e),int er])∧Conv G (.tup [.agg (bC ⟨0,0,0,0,0,o0⟩),int 3]) r:=fun h=>no fun ev2 hev=>by obtain⟨kind,t,r,g1,g2,g3,g4,g5,g6,g7,_⟩:=kindI ev2 hev;have e2:=(List.cons.inj g4).2;rw[g7]at p2;exact p2 h ev2 (by rw[e2];exact g6)
  have good:∀{G:aC},ok=true→∃r,(∃(e:D.Event) (er:Int),((er=0∧EvT s e)∨(er=3∧∀e,¬EvT s e))∧r=.tup [.agg (bC e),int er])∧Conv G (.tup [.agg (bC ev),int 0]) r:=fun h=>by
   have hp:=p1 h;refine⟨_,⟨ev,0,.inl ⟨rfl,?_⟩,rfl⟩,.refl _⟩;have hall:∀w∈Sc.aW (k:Nat)::aH n::v2::lr,aW w=true:=fun w hw=>by
    rcases Xaf.1 hw with rfl|hw
    ·exact tX _ hk6 hkp
    ·exact DA hp w hw
   have hsj:=(w3 rfl (by simp) (by rw[hv0];exact hall)).2.2;rw[hsj,hv0];exact Rx hp.1 hp.2
  simp only[go_sem,P,Q];refine bF Q ⟨Nat.zero_lt_one,rfl,Nat.le_of_ble_eq_true rfl⟩ fun G Q1 F=>?_
  replace P:=F _ _ npq P;replace Q:G q=some ⟨66,21,[bC ev]⟩:=Q1;clear F Q1;simp only[go_sem,P,Q];refine cV fun _ Hm _ hm2=>?_
  obtain rfl:Hm=G:=funext fun k=>hm2 k (by simp)
  simp only[go_sem,P,Q];refine aA (fun hb=>?_) (fun hb=>?_)
  ·simp only[go_sem,P,Q];refine bF P ⟨Nat.zero_lt_one,rfl,Nat.le_of_ble_eq_true rfl⟩ fun G P1 F=>?_
   simp only[go_sem,P1];exact bad (by simpa using hb)
  ·simp only[go_sem,P,Q];refine bF P ⟨Nat.zero_lt_one,rfl,Nat.le_of_ble_eq_true rfl⟩ fun G P1 F=>?_
   simp only[go_sem,P1];exact good (by simpa using hb)
theorem Ol(s p:ByteArray):Lib.hasPrefix (bs s) (bs p)=(decide (p.size≤s.size)&&((s.extract 0 p.size).toList == p.toList)):=by
 unfold Lib.hasPrefix;rw[Xaw,List.isPrefixOf_iff_prefix,List.prefix_iff_eq_take,Xag,decide_eq_true_eq,Xan,Lib.toList_data,Lib.toList_data];have e:(s.extract 0 p.size).data.toList=(bs s).take p.size:=by show bs _=_;rw[eY,List.drop_zero,Nat.sub_zero]
 rw[e,bY];constructor
 ·intro h;refine⟨?_,h.symm⟩;have:=congrArg List.length h;rw[Xas,bY,bY]at this;omega
 ·intro h;exact h.2.symm
theorem Az(s p:ByteArray)(hp:p.size≤100)(hs:s.size≤1048576):PC prog 45 [str s,str p] (boo (Lib.hasPrefix (bs s) (bs p))):=by
 rw[Ol];refine pcd func45 rfl rfl ?_;simp only[go_sem];refine⟨fun h=>?_,cB ?_⟩
 ·have:=of_decide_eq_true h;omega
 ·congr 1
  exact decide_eq_decide.2 (by omega)
theorem P6:∀{a b x y:List UInt8},(32:UInt8)∉a→(32:UInt8)∉b→a++32::x=b++32::y→a=b
 | [],[],_,_,_,_,_=>rfl
 | [],c::b,_,_,_,hb,h=>by injection h with h _;exact absurd (by rw[←h];simp) hb
 | c::a,[],_,_,ha,_,h=>by injection h with h _;exact absurd (by rw[h];simp) ha
 | c::a,d::b,_,_,ha,hb,h=>by injection h with h1 h2;rw[h1,P6 (fun hm=>ha (by simp[hm])) (fun hm=>hb (by simp[hm])) h2]
theorem GE{s w v b:ByteArray}(hw:hJ w=true)(hs:s=aG spB [w,v])(hb:aW b=true)(hp:Lib.hasPrefix (bs s) (bs b++[32])=true):w=b:=by
 have e1:=Al hp;have e2:bs s=bs w++32::bs v:=by rw[hs,lJ,vA,dJ,dJ];rfl
 rw[e2]at e1;rw[Xar,List.singleton_append]at e1;have hww:aW w=true:=by
  refine C6 hw ?_;unfold Aa;cases hq:(((w.data.getD 0 0).toNat:Int) == 34)with
  | false=>rfl
  | true=>
   have h34:w.data.getD 0 0=34:=(BD (k:=34) (by decide)).1 hq;have h1:=xK (BW hw);have h2:=xK (iL hb);have hh:(bs w).head?=(bs b).head?:=by
    have g1:(bs w++32::bs v).head?=(bs w).head?:=by rw[List.head?_append,h1];rfl
    have g2:∀z,(bs b++32::z).head?=(bs b).head?:=fun z=>by rw[List.head?_append,h2];rfl
    rw[←g1,e1,g2]
   rw[h1,h2,h34,Option.some.injEq]at hh;have:=pF hb 34 (by rw[hh];exact List.mem_of_mem_head? h2);exact absurd this (by decide)
 exact gD (P6 (wS hww (by decide)) (wS hb (by decide)) e1)
theorem At(s:ByteArray)(k:Int)(hs:s.size≤65536):UC prog 46 [str s,int k] fun r=>∃(c:D.Command) (er:Int),((er=0∧∃w n,hJ w=true∧bH n∧s=aG spB [w,aH n]∧c=⟨k,n,e00⟩)∨(er=3∧∀w n,aW w=true→bH n→s≠aG spB [w,aH n]))∧r=.tup [.agg (aS c),int er]:=by
 refine UC.body (c:=f46.body.getD .skip) (fun _=>false) mixed func46 rfl (by kernel_rfl) ?_;unfold f46;simp only[Xai];simp only[go_sem];refine aL fun p G hp0 (P:G p=some ⟨71,23,[aS ⟨0,0,e00⟩]⟩) N=>?_
 clear N hp0;simp only[go_sem,P];refine(Bm s (by omega)).use ?_;rintro _ ⟨l,e,⟨⟨w1,w2,w3,w4⟩,w5⟩,rfl⟩;have no:∀{G:aC},(∀w n,aW w=true→bH n→s≠aG spB [w,aH n])→∃r,(∃(c:D.Command) (er:Int),((er=0∧∃w n,hJ w=true∧bH n∧s=aG spB [w,aH n]∧c=⟨k,n,e00⟩)∨(er=3∧∀w n,aW w=true→bH n→s≠aG spB [w,aH n]))∧r=.tup [.agg (aS c),int er])∧Conv G (.tup [.agg (aS ⟨0,0,e00⟩),int 3]) r:=fun h=>⟨_,⟨_,3,.inr ⟨rfl,h⟩,rfl⟩,.refl _⟩
 have two:∀w n,aW w=true→bH n→s=aG spB [w,aH n]→e=0∧l=[w,aH n]:=fun w n hw hn h=>w2 _ ⟨by simp,fun u hu=>by
  simp only[Xaf,List.not_mem_nil,or_false]at hu;rcases hu with rfl|rfl
  ·exact hw
  ·exact eI n,h⟩
 simp only[go_sem,P];refine aA (fun hb=>?_) (fun hb=>?_)
 ·simp only[go_sem,P];refine bF P ⟨Nat.zero_lt_one,rfl,Nat.le_of_ble_eq_true rfl⟩ fun G P1 F=>?_
  simp only[go_sem,P1];refine no fun w n hw hn h=>?_
  obtain⟨g1,g2⟩:=two w n hw hn h;rw[g1,g2]at hb;simp at hb
 rw[Xaq]at hb;have he:e=0:=by simpa using hb.1
 have hl2:l.length=2:=by
  have:(l.length:Int)=2:=by simpa using hb.2
  omega
 clear hb;subst he;obtain⟨w40,w41⟩:=w4 rfl
 match l,hl2 with
 | [w,v],_=>
 obtain⟨n,er,hc,hnq⟩:=qF v (by have:=w41 v (by simp);omega);have hjc:=No [w,v] (by simp) (fun a ha=>by have:=w41 a ha;omega);simp only[go_sem,P];refine⟨⟨by omega,by omega⟩,PC.use hc ?_⟩;simp only[go_sem,P];refine⟨_,fun _=>hjc.q rfl,?_⟩;simp only[go_sem,P];refine aA (fun hb=>?_) (fun hb=>?_)
 ·simp only[go_sem,P];refine bF P ⟨Nat.zero_lt_one,rfl,Nat.le_of_ble_eq_true rfl⟩ fun G P1 F=>?_
  simp only[go_sem,P1];refine no fun w' n' hw hn h=>?_
  obtain⟨_,g2⟩:=two w' n' hw hn h;simp only[List.cons.injEq,and_true]at g2;obtain⟨rfl,rfl⟩:=g2;rcases hnq with⟨rfl,_⟩|⟨_,h2⟩
  ·rw[←h]at hb;simp at hb
  ·exact h2 n' hn rfl
 rw[Xaq]at hb;have her:er=0:=by simpa using hb.1
 have hsj:s=aG spB [w,v]:=(fP (by simpa using hb.2)).symm;obtain⟨hn,rfl⟩:bH n∧v=aH n:=by
  rcases hnq with⟨_,h1,h2⟩|⟨h,_⟩
  ·exact⟨h1,h2⟩
  ·exact absurd her h
 simp only[go_sem,P];refine bF P ⟨Nat.zero_lt_one,rfl,Nat.le_of_ble_eq_true rfl⟩ fun G P1 F=>?_
 simp only[go_sem,P1];exact⟨_,⟨⟨k,n,e00⟩,0,.inl ⟨rfl,w,n,w1 rfl w (by simp),hn,hsj,rfl⟩,rfl⟩,.refl _⟩
theorem Fu{c:D.Command}{s:ByteArray}(h:CE c s):(c=⟨1,0,e00⟩∧s=Gc)∨(c=⟨4,0,e00⟩∧s=AD)∨(c=⟨6,0,e00⟩∧s=GX) ∨
  ((bs s).head?=some 97∧∃n,bH n∧s=aG spB [Br,aH n])∨((bs s).head?=some 101∧∃n,bH n∧s=aG spB [sX,aH n])∨((bs s).head?=some 104∧∃e,EvT (s.extract 7 s.size) e):=by
 have hd:∀(b:ByteArray) (c:UInt8) (r:List UInt8) (x:ByteArray),bs b=c::r→(bs (b++x)).head?=some c:=fun b c r x h=>by rw[dJ,h];rfl
 rcases h with h|h|h|⟨n,hn,rfl,rfl⟩|⟨n,hn,rfl,rfl⟩|⟨e,he,h0,rfl,rfl⟩
 ·exact .inl h
 ·exact .inr (.inl h)
 ·exact .inr (.inr (.inl h))
 ·exact .inr (.inr (.inr (.inl ⟨by rw[aZ];exact hd Br 97 _ _ rfl,n,hn,rfl⟩)))
 ·exact .inr (.inr (.inr (.inr (.inl ⟨by rw[aZ];exact hd sX 101 _ _ rfl,n,hn,rfl⟩))))
 ·refine .inr (.inr (.inr (.inr (.inr ⟨hd oT 104 _ _ rfl,e,he,h0,?_⟩))));refine gD ?_;rw[tS,dJ];exact List.drop_left (l₁:=bs oT)
theorem Hj{s p:ByteArray}{c:UInt8}{r:List UInt8}(hp:bs p=c::r)(h:Lib.hasPrefix (bs s) (bs p)=true):(bs s).head?=some c:=by have:=Al h;rw[this,hp];rfl
theorem PH(s:ByteArray)(hs:s.size≤65536):UC prog 17 [str s] fun r=>∃(c:D.Command) (er:Int),((er=0∧CE c s)∨(er=3∧∀c,¬CE c s))∧r=.tup [.agg (aS c),int er]:=by
 refine UC.body (c:=f17.body.getD .skip) (fun _=>false) mixed func17 rfl (by kernel_rfl) ?_;unfold f17;simp only[Xai];simp only[go_sem];refine aL fun p G hp0 (P:G p=some ⟨71,23,[aS ⟨0,0,e00⟩]⟩) N=>?_
 clear N hp0;simp only[go_sem,P];refine aA (fun hb=>?_) (fun hb0=>?_)
 ·have hsp:s=Gc:=fP hb;simp only[go_sem,P];refine bF P ⟨Nat.zero_lt_one,rfl,Nat.le_of_ble_eq_true rfl⟩ fun G P1 F=>?_
  simp only[go_sem,P1];exact⟨_,⟨⟨1,0,e00⟩,0,.inl ⟨rfl,.inl ⟨rfl,hsp⟩⟩,rfl⟩,.refl _⟩
 have n0:s≠Gc:=fun e=>by rw[e]at hb0;exact absurd hb0 (by decide +kernel)
 simp only[go_sem,P];refine aA (fun hb=>?_) (fun hb1=>?_)
 ·have hsp:s=AD:=fP hb;simp only[go_sem,P];refine bF P ⟨Nat.zero_lt_one,rfl,Nat.le_of_ble_eq_true rfl⟩ fun G P1 F=>?_
  simp only[go_sem,P1];exact⟨_,⟨⟨4,0,e00⟩,0,.inl ⟨rfl,.inr (.inl ⟨rfl,hsp⟩)⟩,rfl⟩,.refl _⟩
 have n1:s≠AD:=fun e=>by rw[e]at hb1;exact absurd hb1 (by decide +kernel)
 simp only[go_sem,P];refine aA (fun hb=>?_) (fun hb2=>?_)
 ·have hsp:s=GX:=fP hb;simp only[go_sem,P];refine bF P ⟨Nat.zero_lt_one,rfl,Nat.le_of_ble_eq_true rfl⟩ fun G P1 F=>?_
  simp only[go_sem,P1];exact⟨_,⟨⟨6,0,e00⟩,0,.inl ⟨rfl,.inr (.inr (.inl ⟨rfl,hsp⟩))⟩,rfl⟩,.refl _⟩
 have n2:s≠GX:=fun e=>by rw[e]at hb2;exact absurd hb2 (by decide +kernel)
 simp only[go_sem,P];clear hb0 hb1 hb2;refine bB (Az s ⟨#[97,100,118,97,110,99,101,32]⟩ (by decide) (by omega)) ?_;simp only[go_sem,P];refine aA (fun hb=>?_) (fun hb3=>?_)
 ·have hh:=Hj (p:=⟨#[97,100,118,97,110,99,101,32]⟩) (c:=97) rfl hb;simp only[go_sem,P];refine(At s 2 hs).use ?_;rintro _ ⟨c,er,hq,rfl⟩;simp only[go_sem,P];refine bF P ⟨Nat.zero_lt_one,rfl,Nat.le_of_ble_eq_true rfl⟩ fun G P1 F=>?_
  simp only[go_sem,P1];refine⟨_,⟨c,er,?_,rfl⟩,.refl _⟩;rcases hq with⟨rfl,w,n,hw,hn,hsj,rfl⟩|⟨rfl,hno⟩
  ·refine .inl ⟨rfl,.inr (.inr (.inr (.inl ⟨n,hn,rfl,?_⟩)))⟩;rw[←GE hw hsj (b:=Br) (by decide +kernel) hb];exact hsj
  ·refine .inr ⟨rfl,fun c hc=>?_⟩;rcases Fu hc with⟨_,h⟩|⟨_,h⟩|⟨_,h⟩|⟨h,n,hn,he⟩|⟨h,n,hn,he⟩|⟨h,_⟩
   ·exact n0 h
   ·exact n1 h
   ·exact n2 h
   ·exact hno Br n (by decide +kernel) hn he
   ·rw[hh]at h;exact absurd h (by decide)
   ·rw[hh]at h;exact absurd h (by decide)
 simp only[go_sem,P];refine bB (Az s ⟨#[101,120,112,108,97,105,110,32]⟩ (by decide) (by omega)) ?_;simp only[go_sem,P];refine aA (fun hb=>?_) (fun hb4=>?_)
 ·have hh:=Hj (p:=⟨#[101,120,112,108,97,105,110,32]⟩) (c:=101) rfl hb;simp only[go_sem,P];refine(At s 5 hs).use ?_;rintro _ ⟨c,er,hq,rfl⟩;simp only[go_sem,P];refine bF P ⟨Nat.zero_lt_one,rfl,Nat.le_of_ble_eq_true rfl⟩ fun G P1 F=>?_
  simp only[go_sem,P1];refine⟨_,⟨c,er,?_,rfl⟩,.refl _⟩;rcases hq with⟨rfl,w,n,hw,hn,hsj,rfl⟩|⟨rfl,hno⟩
  ·refine .inl ⟨rfl,.inr (.inr (.inr (.inr (.inl ⟨n,hn,rfl,?_⟩))))⟩;rw[←GE hw hsj (b:=sX) (by decide +kernel) hb];exact hsj
  ·refine .inr ⟨rfl,fun c hc=>?_⟩;rcases Fu hc with⟨_,h⟩|⟨_,h⟩|⟨_,h⟩|⟨h,n,hn,he⟩|⟨h,n,hn,he⟩|⟨h,_⟩
   ·exact n0 h
   ·exact n1 h
   ·exact n2 h
   ·rw[hh]at h;exact absurd h (by decide)
   ·exact hno sX n (by decide +kernel) hn he
   ·rw[hh]at h;exact absurd h (by decide)
 simp only[go_sem,P];have adv:∀n,s≠aG spB [Br,aH n]:=fun n e=>by
  rw[e,aZ,bS]at hb3;have:Lib.hasPrefix (bs (Br++(spB++(aH n++cS spB [])))) (bs ⟨#[97,100,118,97,110,99,101,32]⟩)=true:=by unfold Lib.hasPrefix;rw[List.isPrefixOf_iff_prefix,dJ,dJ];exact⟨bs (aH n++cS spB []),rfl⟩
  rw[this]at hb3;cases hb3
 have expl:∀n,s≠aG spB [sX,aH n]:=fun n e=>by
  rw[e,aZ,bS]at hb4;have:Lib.hasPrefix (bs (sX++(spB++(aH n++cS spB [])))) (bs ⟨#[101,120,112,108,97,105,110,32]⟩)=true:=by unfold Lib.hasPrefix;rw[List.isPrefixOf_iff_prefix,dJ,dJ];exact⟨bs (aH n++cS spB []),rfl⟩
  rw[this]at hb4;cases hb4
 refine bB (Az s ⟨#[104,97,112,112,101,110,32]⟩ (by decide) (by omega)) ?_;simp only[go_sem,P];refine aA (fun hb=>?_) (fun hb5=>?_)
 ·have hap:=Lj hb;have h7:7≤s.size:=by have:=congrArg ByteArray.size hap;rw[ByteArray.size_append]at this;have h2:oT.size=7:=rfl;omega
  have hse:s=oT++s.extract 7 s.size:=by
   refine gD ?_;rw[dJ,tS];have e:=congrArg bs hap;rw[dJ]at e;have d:(bs s).drop 7=bs ⟨(Lib.trimPrefix s.data.toList oT.data.toList).toArray⟩:=by rw[e];exact List.drop_left (l₁:=bs oT)
   rw[d];exact e
  simp only[go_sem,P];refine⟨by omega,(Jk (s.extract 7 s.size) (by simp;omega)).use ?_⟩;rintro _ ⟨ev,er,hq,rfl⟩;simp only[go_sem,P];refine aL fun q G hq0 (Q:G q=some (eM 0 0 0 0 0 o0)) N=>?_
  obtain⟨npq,P⟩:=N P;clear N hq0;simp only[go_sem,P,Q];refine bF Q ⟨Nat.zero_lt_one,rfl,Nat.le_of_ble_eq_true rfl⟩ fun G Q1 F=>?_
  replace P:=F _ _ npq P;replace Q:G q=some ⟨66,21,[bC ev]⟩:=Q1;clear F Q1;simp only[go_sem,P,Q];refine aA (fun he=>?_) (fun he=>?_)
  ·simp only[go_sem,P,Q];refine bF P ⟨Nat.zero_lt_one,rfl,Nat.le_of_ble_eq_true rfl⟩ fun G P1 F=>?_
   simp only[go_sem,P1];refine⟨_,⟨⟨0,0,e00⟩,er,?_,rfl⟩,.refl _⟩;rcases hq with⟨h,_⟩|⟨h,hno⟩
   ·rw[h]at he;exact absurd he (by decide)
   ·refine .inr ⟨h,fun c hc=>?_⟩;rcases Fu hc with⟨_,h⟩|⟨_,h⟩|⟨_,h⟩|⟨_,n,_,h⟩|⟨_,n,_,h⟩|⟨_,e,h⟩
    ·exact n0 h
    ·exact n1 h
    ·exact n2 h
    ·exact adv n h
    ·exact expl n h
    ·exact hno e h
  ·have he:er=0:=by simpa using he
   obtain⟨h1,h2,h3⟩:EvT (s.extract 7 s.size) ev:=by
    rcases hq with⟨_,h⟩|⟨h,_⟩
    ·exact h
    ·rw[he]at h;cases h
   simp only[go_sem,P,Q];refine bF P ⟨Nat.zero_lt_one,rfl,Nat.le_of_ble_eq_true rfl⟩ fun G P1 F=>?_
   simp only[go_sem,P1];exact⟨_,⟨⟨3,0,ev⟩,0,.inl ⟨rfl,.inr (.inr (.inr (.inr (.inr ⟨ev,h1,h2,rfl,by rw[←h3];exact hse⟩))))⟩,rfl⟩,.refl _⟩
 ·simp only[go_sem,P];refine bF P ⟨Nat.zero_lt_one,rfl,Nat.le_of_ble_eq_true rfl⟩ fun G P1 F=>?_
  simp only[go_sem,P1];refine⟨_,⟨⟨0,0,e00⟩,3,.inr ⟨rfl,fun c hc=>?_⟩,rfl⟩,.refl _⟩;rcases hc with⟨_,h⟩|⟨_,h⟩|⟨_,h⟩|⟨n,_,_,h⟩|⟨n,_,_,h⟩|⟨e,_,_,_,h⟩
  ·exact n0 h
  ·exact n1 h
  ·exact n2 h
  ·exact adv n h
  ·exact expl n h
  ·have : Lib.hasPrefix (bs s) (bs ⟨#[104, 97, 112, 112, 101, 110, 32]⟩) = true := by unfold Lib.hasPrefix;rw[List.isPrefixOf_iff_prefix,h,dJ];exact⟨bs (evR e).1,rfl⟩
   rw[this]at hb5;cases hb5
end Sp
namespace Sp
open Go.Proofs.Tryz
open Go.Proofs.YthbiheckeoknlaaGreatDoor (cP fG)
open Go.Proofs.YthbiheckeoknlaaGreatDoor.Nw (ltB geB eT cB)
open Go.Proofs.YthbiheckeoknlaaGreatDoor.Sk
open Go.Proofs.YthbiheckeoknlaaGreatDoor.Sc hiding aW
open Go.RowKit (Below)
theorem Hw(s:ByteArray)(hs:s.size≤1048575):UC prog 152 [str s] fun r=>∃(v:Stop) (ok:Bool),((ok=true→s=eQ v∧jQ v)∧(ok=false→∀v,jQ v→s≠eQ v))∧r=.tup [.agg (dQ v),boo ok]:=by
 refine UC.body (c:=f152.body.getD .skip) (fun _=>false) mixed func152 rfl (by kernel_rfl) ?_;unfold f152;simp only[Xai];simp only[go_sem];refine aL fun p G hp0 (P:G p=some ⟨62,4,[dQ ⟨0,0,0,0⟩]⟩) N=>?_
 clear N hp0;simp only[go_sem,P];refine aA (fun hd=>?_) (fun hd=>?_)
 ·simp only[go_sem,P];refine bF P ⟨Nat.zero_lt_one,rfl,Nat.le_of_ble_eq_true rfl⟩ fun G2 P2 F2=>?_
  simp only[go_sem,P2];exact⟨_,⟨⟨-1,0,0,0⟩,true,⟨fun _=>⟨by rw[xY hd];rfl,by simp[jQ,bH]⟩,(fun h=>by cases h)⟩,rfl⟩,.refl _⟩
 have key:∀v:Stop,s=eQ v→s=aG ⟨#[58]⟩ ([v.place,v.start,v.close,v.service].map aH):=fun v e=>by
  by_cases hz:eK v=true
  ·rw[show eQ v=⟨#[46]⟩from if_pos hz]at e;exact absurd e (qC hd)
  ·exact e.trans (if_neg hz)
 have four:∀{v:Stop},jQ v→∀n∈[v.place,v.start,v.close,v.service],bH n:=by
  intro v hz n hn;simp only[Xaf,List.not_mem_nil,or_false]at hn;rcases hn with rfl|rfl|rfl|rfl
  ·exact hz.1
  ·exact hz.2.1
  ·exact hz.2.2.1
  ·exact hz.2.2.2
 obtain⟨ps,hne,hno,hj⟩:=rC 58 s;have hpl:=fX 58 ps;rw[←hj]at hpl;have hpc:=pE hne hno (by rw[←hj];exact hs);rw[←hj]at hpc;simp only[go_sem,P];refine bB hpc ?_;simp only[go_sem,P];refine(mA ps (by omega) fun p hp=>by have:=bW ⟨#[58]⟩ hp;rw[←hj]at this;omega).use ?_;rintro _ ⟨ns,ok,⟨q1,q2⟩,rfl⟩;have no:(ok=false∨ns.length≠4)→∀v,jQ v→s≠eQ v:=fun h v hv e=>by
  have e2:=key v e;have hps:=jF hne (by simp) hno (oX (by decide) _) (hj.symm.trans e2);rcases h with h|h
  ·exact(q2 h).2 _ (four hv) hps
  ·cases ok with
   | false=>exact(q2 rfl).2 _ (four hv) hps
   | true=>have:=congrArg List.length ((q1 rfl).1.symm.trans hps);simp at this;exact h this
 simp only[go_sem,P];refine aA (fun hb=>?_) (fun hb=>?_)
 ·simp only[go_sem,P];refine bF P ⟨Nat.zero_lt_one,rfl,Nat.le_of_ble_eq_true rfl⟩ fun G2 P2 F2=>?_
  simp only[go_sem,P2];refine⟨_,⟨⟨0,0,0,0⟩,false,⟨(fun h=>by cases h),fun _=>no ?_⟩,rfl⟩,.refl _⟩;rcases Bool.or_eq_true_iff.1 hb with h|h
  ·exact .inl (by simpa using h)
  ·refine .inr fun e=>?_
   have h:¬((ns.length:Int)=4):=by simpa using h
   omega
 rw[Xaq]at hb;have hok:ok=true:=by simpa using hb.1
 subst hok;obtain⟨r1,r2⟩:=q1 rfl;have h4:ns.length=4:=by
  have:((ns.length:Int)=4):=by simpa using hb.2
  omega
 match ns,h4 with
 | [n0,n1,n2,n3],_=>
 have hz:jQ ⟨n0,n1,n2,n3⟩:=⟨r2 _ (by simp),r2 _ (by simp),r2 _ (by simp),r2 _ (by simp)⟩;simp only[go_sem,P];refine bX [(0,true),(1,true),(2,true),(3,true),(4,true),(5,true),(6,true),(7,true),(8,true),(9,true),(10,true),(11,true),(12,true),(13,false),(14,false)] (by kernel_rfl) ?_;simp only[go_sem,P];refine⟨⟨by omega,by omega⟩,⟨by omega,by omega⟩,⟨by omega,by omega⟩,⟨by omega,by omega⟩,?_⟩;refine aL fun q G2 hq (Q:G2 q=some ⟨62,4,[dQ ⟨0,0,0,0⟩]⟩) N=>?_
 obtain⟨np,P⟩:=N P;clear N;simp only[go_sem,P,Q];refine bF Q ⟨by simp,rfl,by simp⟩ fun G3 Q3 F3=>?_
 replace P:=F3 _ _ np P;simp only[go_sem,P,Q3];replace Q3:G3 q=some ⟨62,4,[dQ ⟨n0,n1,n2,n3⟩]⟩:=Q3;refine rM [q] [(0,true),(1,true),(2,true),(3,true),(4,true),(5,false),(6,true)] (by simp[Q3]) (by kernel_rfl) fun Hp Hr hp hr _ _=>?_
 have Qp:Hp q=some ⟨62,4,[dQ ⟨n0,n1,n2,n3⟩]⟩:=(hp q (by simp)).trans Q3;have Pr:Hr p=some ⟨62,4,[dQ ⟨0,0,0,0⟩]⟩:=(hr p (by simpa using np)).trans P;simp only[go_sem,Qp,Pr];refine⟨_,(yK ⟨n0,n1,n2,n3⟩ hz).q rfl,?_⟩;simp only[go_sem,Qp,Pr];refine bF Pr ⟨Nat.zero_lt_one,rfl,Nat.le_of_ble_eq_true rfl⟩ fun G4 P4 F4=>?_
 simp only[go_sem,P4];refine cV fun _ Hm _ hm2=>?_
 have P5:=(hm2 p (by simpa using np)).trans P4;simp only[go_sem,P5];refine⟨_,⟨⟨n0,n1,n2,n3⟩,_,⟨fun h=>⟨(fP h).symm,hz⟩,fun h v hv e=>?_⟩,rfl⟩,.refl _⟩;have e2:=key v e;rw[hj,r1]at e2;have:=nJ (by decide) (by simp) (by simp) e2;obtain⟨a0,a1,a2,a3⟩:=v;simp only[List.cons.injEq,and_true]at this;obtain⟨rfl,rfl,rfl,rfl⟩:=this;rw[←e]at h;simp at h
theorem Ik(s:ByteArray)(hs:s.size≤1048575):UC prog 150 [str s] fun r=>∃(v:List Point) (ok:Bool),((ok=true→s=eP v∧∀p∈v,gH p)∧(ok=false→∀v,(∀p∈v,gH p)→s≠eP v))∧r=.tup [.sl (v.map bL),boo ok]:=by
 refine UC.body (c:=f150.body.getD .skip) (fun t=>t == 4) mixed func150 rfl (by kernel_rfl) ?_;unfold f150;simp only[Xai];simp only[go_sem];refine aL fun i HGi hi0 (Ri:HGi i=some (AL [])) N=>?_
 clear N hi0;simp only[go_sem,Ri];refine aA (fun hd=>?_) (fun hd=>?_)
 ·simp only[go_sem,Ri];exact⟨_,⟨[],true,⟨fun _=>⟨by rw[xY hd];rfl,by simp⟩,(fun h=>by cases h)⟩,rfl⟩,.tup _ _ (.cons _ _ _ _ (.row _ _ _ Ri (ConvE.refl _)) (.cons _ _ _ _ (.refl _) .nil))⟩
 obtain⟨ps,hne,hno,hj⟩:=rC 44 s;have hpl:=fX 44 ps;rw[←hj]at hpl;have hpc:=pE hne hno (by rw[←hj];exact hs);rw[←hj]at hpc;have hsz:∀p∈ps,p.size≤1048575:=fun p hp=>by have:=bW ⟨#[44]⟩ hp;rw[←hj]at this;omega
 have fails:∀p∈ps,(∀q:Point,gH q→p≠fQ q)→∀v,(∀p∈v,gH p)→s≠eP v:=fun p hp hq v hv e=>by
  by_cases hv0:v=[]
  ·subst hv0;exact qC hd e
  ·have:=jF hne (by simpa using hv0) hno (tJ v) (hj.symm.trans (e.trans (eX hv0)));rw[this]at hp;obtain⟨q,hq',rfl⟩:=Xat.1 hp;exact hq q (hv q hq') rfl
 simp only[go_sem,Ri];refine bB hpc ?_;simp only[go_sem];refine⟨fun ρ H'=>∃(i:Nat) (v:List Point),v.length≤ps.length∧ρ 5=.sl (ps.map D.bE)∧ρ 6=int (v.length:Nat)∧ρ 4=.os i∧H' i=some (AL v)∧ps.take v.length=v.map fQ∧(∀p∈v,gH p),fun ρ _=>ps.length-bO (ρ 6),⟨i,[],Xad _,by simp only[go_sem],(by simp only[go_sem];rfl),by simp only[go_sem],Ri,rfl,by simp⟩,?_⟩;clear Ri;rintro ρ H' ⟨i,v,hk,e5,e6,e4,Ri,htk,hv⟩;simp only[go_sem,e5,e6,e4];refine aA (fun hlt=>?_) (fun hge=>?_)
 ·have hlt : v.length < ps.length := by have:=of_decide_eq_true hlt;omega
  obtain⟨p,hp⟩:=cG hlt;have b1:=inB hlt;have hwr:=fM (show v.length≤4611686018427387904 by omega);obtain⟨qs,hne2,hno2,hj2⟩:=rC 58 p;have hpl2:=fX 58 qs;rw[←hj2]at hpl2;have hps:=hsz p (aQ hp);have hpc2:=pE hne2 hno2 (by rw[←hj2];exact hps);rw[←hj2]at hpc2;simp only[go_sem,e5,e6,e4,aM hp,b1];refine bB hpc2 ?_;simp only[go_sem,e5,e6,e4];refine(mA qs (by omega) fun q hq=>by have:=bW ⟨#[58]⟩ hq;rw[←hj2]at this;omega).use ?_;rintro _ ⟨ns,ok,⟨q1,q2⟩,rfl⟩;have two:∀{q:Point},gH q→∀n∈[q.t,q.a],bH n:=by
   intro q hz n hn;simp only[Xaf,List.not_mem_nil,or_false]at hn;rcases hn with rfl|rfl
   ·exact hz.1
   ·exact hz.2
  have no:(ok=false∨ns.length≠2)→∀q,gH q→p≠fQ q:=fun h q hq e=>by
   rw[fR]at e;have hps:=jF hne2 (by simp) hno2 (oX (by decide) _) (hj2.symm.trans e);rcases h with h|h
   ·exact(q2 h).2 _ (two hq) hps
   ·cases ok with
    | false=>exact(q2 rfl).2 _ (two hq) hps
    | true=>have:=congrArg List.length ((q1 rfl).1.symm.trans hps);simp at this;exact h this
  simp only[go_sem,e5,e6,e4];refine aA (fun hb=>?_) (fun hb=>?_)
  ·simp only[go_sem];refine⟨_,⟨[],false,⟨(fun h=>by cases h),fun _=>fails p (aQ hp) (no ?_)⟩,rfl⟩,.refl _⟩;rcases Bool.or_eq_true_iff.1 hb with h|h
   ·exact .inl (by simpa using h)
   ·refine .inr fun e=>?_
    have h:¬((ns.length:Int)=2):=by simpa using h
    omega
  rw[Xaq]at hb;have hok:ok=true:=by simpa using hb.1
  subst hok;obtain⟨r1,r2⟩:=q1 rfl;have h2:ns.length=2:=by
   have:((ns.length:Int)=2):=by simpa using hb.2
   omega
  match ns,h2 with
  | [x,y],_=>
  simp only[go_sem,e5,e6,e4];refine bX [(0,true),(1,true),(2,true),(3,true),(4,true),(5,true),(6,true),(7,true),(8,false),(9,false),(10,false)] (by kernel_rfl) ?_;simp only[go_sem,e5,e6,e4];refine⟨⟨by omega,by omega⟩,⟨by omega,by omega⟩,?_⟩;refine aP Ri ⟨rfl,rfl⟩ (by simp only[go_sem]) (by simp only[Xab,Xaa,List.length_nil];omega) fun j' hj'=>?_
  simp only[go_sem,e5,e6,e4,hwr];refine⟨⟨j',v++[⟨x,y⟩],by rw[Xac,List.length_singleton];exact hlt,by simp,rfl,by rw[aD,AL,Xal];rfl,?_,fun m hm=>?_⟩,by simp only[aE];omega⟩
  ·rw[Xac,List.length_singleton,fL hp,htk,Xal]
   congr 1
   rw[hj2,r1,←fR ⟨x,y⟩];rfl
  ·rcases Xap.1 hm with h|h
   ·exact hv m h
   ·rw[Xbb.1 h];exact⟨r2 _ (by simp),r2 _ (by simp)⟩
 ·have hge : v.length = ps.length := by have:=of_decide_eq_false hge;omega
  rw[hge,Xaj (Xae _)]at htk;have hv0:v≠[]:=fun e=>by rw[e]at htk;exact hne (by simpa using htk)
  simp only[go_sem,e5,e6,e4];exact⟨_,⟨v,true,⟨fun _=>⟨by rw[eX hv0,←htk,←hj],hv⟩,(fun h=>by cases h)⟩,rfl⟩,.tup _ _ (.cons _ _ _ _ (.row _ _ _ Ri (ConvE.refl _)) (.cons _ _ _ _ (.refl _) .nil))⟩
end Sp
namespace Sp
open Go.Proofs.Tryz
open Go.Proofs.YthbiheckeoknlaaGreatDoor
open Go.Proofs.YthbiheckeoknlaaGreatDoor.Nw (ltB geB eT cB)
open Go.Proofs.YthbiheckeoknlaaGreatDoor.Sk
open Go.Proofs.YthbiheckeoknlaaGreatDoor.Sc hiding aW
structure ID(H:aC)(n:Nat→Nat)(x:Instance):Prop where
 d:∀i<6,H (n i)=some (dC x i)
 nn:∀i<6,∀j<6,i≠j→n i≠n j
def nX(n:Nat→Nat)(k:Nat):Prop:=∀i<6,k≠n i
def mB(n n':Nat→Nat)(H H':aC):Prop:=∀k row,nX n k→H k=some row→H' k=some row∧nX n' k
abbrev xA(n:Nat→Nat):AV:=.agg [.os (n 0),.os (n 1),.os (n 2),.os (n 3),.os (n 4),.os (n 5)]
theorem Bv{H:aC}{b:Nat}{n:Nat→Nat}{x:Instance}(I:IH H b n x):ID H n x:=⟨I.d,I.nn⟩
theorem kU{x:Instance}(it:Sk.Item){i:Nat}(hi:i<6)(hne:i≠it.rank):dC (eH x it) i=dC x i:=by
 have:i=0∨i=1∨i=2∨i=3∨i=4∨i=5:=by omega
 cases it <;> rcases this with rfl|rfl|rfl|rfl|rfl|rfl <;> first|rfl|exact absurd rfl hne
section
variable{H G G2 G3 G4:aC}{K:AV→aC→Prop}{n:Nat→Nat}{x y:Instance}{p q j j':Nat}{qr:Row}
theorem D7(I:IH G p n x)(Q:G q=some qr)(oq:Off p n q)(kk:∀k row,nX n k→H k=some row→G k=some row∧k≠p∧k≠q)(hj:j<6)(A:G2 j'=some (dC y j))(N2:∀k row,k≠n j→G k=some row→k≠j'∧G2 k=some row)
  (hy:∀i<6,i≠j→dC y i=dC x i) (B3:G3 p=some (nL (Cx n j j'))) (F3:Fr p G2 G3) (F4:Fr q G3 G4):ID G4 (Cx n j j') y∧mB n (Cx n j j') H G4:=by
 have I3:=I.step hj A N2 hy B3 F3;have ks:=CU (x:=x) hj N2 F3;have Q3:=ks q _ oq Q;refine⟨Bv (I3.fr F4 Q3.2),fun k row o h=>?_⟩;obtain⟨g,kp,kq⟩:=kk k row o h;obtain⟨g3,o3⟩:=ks k row ⟨kp,o⟩ g;exact⟨F4 _ _ kq g3,o3.2⟩
theorem rP(I:IH G p n x)(kk:∀k row,nX n k→H k=some row→G k=some row∧k≠p∧k≠q)(F4:Fr q G G4):mB n n H G4:=fun k row o h=>by obtain⟨g,kp,kq⟩:=kk k row o h;exact⟨F4 _ _ kq g,o⟩
def NP(a:Arc):List ByteArray:=[aH a.src,aH a.dst,aH a.profile,aH a.miles,eP a.travel,eP a.slow]
theorem QE(I:ID H n x)(hx:x.net.arcs.length≤100000)(w0:ByteArray)(r:List ByteArray)(hs:∀p∈r,p.size≤1048575)(hl:r.length≤1048575)
  (h1:∀a H' n',OkArc a→r=NP a→ID H' n' (eH x (.arc a))→mB n n' H H'→K (.tup [xA n',boo true]) H')
  (h0:(∀a,OkArc a→r≠NP a)→∀H',mB n n H H'→K (.tup [xA n,boo false]) H'):cK prog 85 [xA n,.sl ((w0::r).map D.bE)] H K:=by
 refine cK.body (c:=f85.body.getD .skip) (fun t=>t == 2) mixed func85 rfl (by kernel_rfl) ?_;unfold f85;simp only[Xai];simp only[go_sem];refine aL fun p G hp0 (P:G p=some (nL n)) N=>?_
 have I1:IH G p n x:=⟨P,fun i hi=>(N (I.d i hi)).2,fun i hi=>(N (I.d i hi)).1,I.nn⟩;have k1:∀k row,nX n k→H k=some row→G k=some row∧k≠p:=fun k row _ h=>⟨(N h).2,(N h).1⟩
 clear N hp0 P;simp only[go_sem];refine aL fun q G' hq0 (Q:G' q=some ⟨31,6,[aO x0]⟩) N=>?_
 obtain⟨I2,oq⟩:=I1.new N;have kk:∀k row,nX n k→H k=some row→G' k=some row∧k≠p∧k≠q:=fun k row o h=>⟨(N (k1 k row o h).1).2,(k1 k row o h).2,(N (k1 k row o h).1).1⟩
 clear N hq0 k1 I1;simp only[go_sem,Q,I2.row];refine aA (fun hb=>?_) (fun hb=>?_)
 ·simp only[go_sem,Q,I2.row];refine bF Q ⟨Nat.zero_lt_one,rfl,Nat.le_of_ble_eq_true rfl⟩ fun G3 Q3 F3=>?_
  simp only[go_sem,Q3];refine h0 (fun a _ e=>?_) _ (rP I2 kk F3);rw[e]at hb;exact absurd hb (by simp[NP])
 have h7:r.length=6:=by
  have:(((w0::r).length:Nat):Int)=7:=by simpa using hb
  simp only[Xaa]at this;omega
 match r,h7 with
 | [w1,w2,w3,w4,w5,w6],_=>
 simp only[go_sem,Q,I2.row];refine⟨by omega,(mA [w1,w2,w3,w4] (by simp) fun p hp=>?_).use ?_⟩
 ·have:=hs p (by simp only[Xaf,List.not_mem_nil,or_false]at hp ⊢;rcases hp with h|h|h|h <;> simp[h]);omega
 rintro _ ⟨ns,ok1,⟨q1,q2⟩,rfl⟩;simp only[go_sem,Q,I2.row];refine⟨⟨by omega,by omega⟩,(Ik w5 (hs _ (by simp))).use ?_⟩;rintro _ ⟨t,ok2,⟨q3,q4⟩,rfl⟩;simp only[go_sem,Q,I2.row];refine⟨⟨by omega,by omega⟩,(Ik w6 (hs _ (by simp))).use ?_⟩;rintro _ ⟨u,ok3,⟨q5,q6⟩,rfl⟩;simp only[go_sem,Q,I2.row];refine aA (fun hb=>?_) (fun hb=>?_)
 ·simp only[go_sem,Q,I2.row];refine bF Q ⟨Nat.zero_lt_one,rfl,Nat.le_of_ble_eq_true rfl⟩ fun G3 Q3 F3=>?_
  simp only[go_sem,Q3];refine h0 (fun a oa e=>?_) _ (rP I2 kk F3);simp only[NP,List.cons.injEq,and_true]at e;obtain⟨rfl,rfl,rfl,rfl,rfl,rfl⟩:=e;cases ok1 with
  | false=>exact(q2 rfl).2 [a.src,a.dst,a.profile,a.miles] (by simp[oa.src,oa.dst,oa.profile,oa.miles]) rfl
  | true=>
   cases ok2 with
   | false=>exact q4 rfl _ oa.travel rfl
   | true=>
    cases ok3 with
    | false=>exact q6 rfl _ oa.slow rfl
    | true=>exact absurd hb (by decide)
 have hok:(ok1=true∧ok2=true)∧ok3=true:=by simpa using hb
 obtain⟨⟨rfl,rfl⟩,rfl⟩:=hok;obtain⟨r1,r2⟩:=q1 rfl;obtain⟨r3,r4⟩:=q3 rfl;obtain⟨r5,r6⟩:=q5 rfl;have h4:ns.length=4:=by have:=congrArg List.length r1;simpa using this.symm
 match ns,h4 with
 | [a0,a1,a2,a3],_=>
 have hA:[w1,w2,w3,w4,w5,w6]=NP ⟨a0,a1,a2,a3,t,u⟩:=by simp only[Xak,Xao,List.cons.injEq,and_true]at r1;obtain⟨rfl,rfl,rfl,rfl⟩:=r1;rw[r3,r5];rfl
 simp only[go_sem,Q,I2.row];refine lO [] (.q 0 (.q 1 (.q 3 (.q 4 (.q 5 (.q 6 (.q 7 (.q 8 (.q 9 (.q 10 (.q 11 (.q 12 (.q 13 (.q 14 (.q 15 (.q 16 (.q 17 (.a2 2 (.a1 18 (.a1 19 (.q 20 (.q 21 (.a1 22 .nil))))) 18 (.a1 2 (.a1 19 (.q 20 (.q 21 (.a1 22 .nil))))))))))))))))))))))) (by simp) (by kernel_rfl) fun Hp Hr _ hr _ _=>?_
 obtain rfl:Hr=G':=funext fun k=>hr k (by simp)
 simp only[go_sem,Q,I2.row];refine⟨by omega,by omega,by omega,by omega,?_,?_⟩
 all_goals
  simp only[go_sem,Q,I2.row];refine mH (I2.d 1 (by decide)) ⟨rfl,rfl⟩ (by simp only[go_sem]) (by simp only[dC,Xab,Xaa,List.length_nil];omega) fun j' G2 A N2=>?_
  have B:=(N2 p _ (I2.nb 1 (by decide)).symm I2.row).2;have Q2:=(N2 q _ (oq.2 1 (by decide)) Q).2;simp only[go_sem,B];refine bU Sv B ⟨Nat.zero_lt_one,rfl,Nat.le_of_ble_eq_true rfl⟩ fun G3 B3 F3=>?_
  simp only[go_sem];refine cV fun _ Hm _ hm2=>?_
  obtain rfl:Hm=G3:=funext fun k=>hm2 k (by simp)
  have Q3:=F3 _ _ oq.1 Q2;simp only[go_sem,B3,Q3];refine bF Q3 ⟨Nat.zero_lt_one,rfl,Nat.le_of_ble_eq_true rfl⟩ fun G4 Q4 F4=>?_
  simp only[go_sem,Q4];have A2:G2 j'=some (dC (eH x (.arc ⟨a0,a1,a2,a3,t,u⟩)) 1):=A.trans (by simp only[dC,eH,cA,Sk.eD,Sk.gE,Sk.gF,Sk.eN,Xal];rfl);obtain⟨f1,f2⟩:=D7 (y:=eH x (.arc ⟨a0,a1,a2,a3,t,u⟩)) (j:=1) I2 Q oq kk (by decide) A2 N2 (fun i hi hne=>kU (.arc _) hi hne) B3 F3 F4;refine h1 ⟨a0,a1,a2,a3,t,u⟩ _ _ ⟨r2 _ (by simp),r2 _ (by simp),r2 _ (by simp),r2 _ (by simp),?_,r4,?_,r6⟩ hA f1 f2
  ·show t.length≤1048576;have:=oI t;rw[←r3]at this;have:=hs w5 (by simp);omega
  ·show u.length≤1048576;have:=oI u;rw[←r5]at this;have:=hs w6 (by simp);omega
end
end Sp
namespace Sp
open Go.Proofs.Tryz
open Go.Proofs.YthbiheckeoknlaaGreatDoor
open Go.Proofs.YthbiheckeoknlaaGreatDoor.Nw (ltB geB eT cB)
open Go.Proofs.YthbiheckeoknlaaGreatDoor.Sk
open Go.Proofs.YthbiheckeoknlaaGreatDoor.Sc hiding aW
theorem So(b:Bool):((onS b).toList == (⟨#[111,102,102]⟩:ByteArray).toList)=b:=by cases b <;> decide +kernel
theorem Q5{H G:aC}{b:Nat}{n:Nat→Nat}{x:Instance}(I:IH H b n x)(h:∀k row,(k=b∨∃i<6,k=n i)→H k=some row→G k=some row):IH G b n x:=
 ⟨h _ _ (.inl rfl) I.row,fun i hi=>h _ _ (.inr ⟨i,hi,rfl⟩) (I.d i hi),I.nb,I.nn⟩
section
variable{H G G2 G3 G4:aC}{K:AV→aC→Prop}{n:Nat→Nat}{x y:Instance}{p q j j':Nat}{qr:Row}
theorem Kk(I:ID H n x)(hx:x.types.length≤100000)(w0:ByteArray)(r:List ByteArray)(hs:∀p∈r,p.size≤1048575)(hl:r.length≤1048575)
  (h1:∀a H' n',OkType a→r=Kz a→ID H' n' (eH x (.type a))→mB n n' H H'→K (.tup [xA n',boo true]) H')
  (h0:(∀a,OkType a→r≠Kz a)→∀H',mB n n H H'→K (.tup [xA n,boo false]) H'):cK prog 86 [xA n,.sl ((w0::r).map D.bE)] H K:=by
 refine cK.body (c:=f86.body.getD .skip) (fun t=>t == 2) mixed func86 rfl (by kernel_rfl) ?_;unfold f86;simp only[Xai];simp only[go_sem];refine aL fun p G hp0 (P:G p=some (nL n)) N=>?_
 have I1:IH G p n x:=⟨P,fun i hi=>(N (I.d i hi)).2,fun i hi=>(N (I.d i hi)).1,I.nn⟩;have k1:∀k row,nX n k→H k=some row→G k=some row∧k≠p:=fun k row _ h=>⟨(N h).2,(N h).1⟩
 clear N hp0 P;simp only[go_sem];refine aL fun q G' hq0 (Q:G' q=some ⟨31,6,[aO x0]⟩) N=>?_
 obtain⟨I2,oq⟩:=I1.new N;have kk:∀k row,nX n k→H k=some row→G' k=some row∧k≠p∧k≠q:=fun k row o h=>⟨(N (k1 k row o h).1).2,(k1 k row o h).2,(N (k1 k row o h).1).1⟩
 clear N hq0 k1 I1;simp only[go_sem,Q,I2.row];refine aA (fun hb=>?_) (fun hb=>?_)
 ·simp only[go_sem,Q,I2.row];refine bF Q ⟨Nat.zero_lt_one,rfl,Nat.le_of_ble_eq_true rfl⟩ fun G3 Q3 F3=>?_
  simp only[go_sem,Q3];refine h0 (fun a _ e=>?_) _ (rP I2 kk F3);rw[e]at hb;exact absurd hb (by simp[Kz])
 have h15:r.length=14:=by
  have:(((w0::r).length:Nat):Int)=15:=by simpa using hb
  simp only[Xaa]at this;omega
 match r,h15 with
 | [w1,w2,w3,w4,w5,w6,w7,w8,w9,w10,w11,w12,w13,w14],_=>
 have hss:∀l':List ByteArray,l' ⊆ [w1,w2,w3,w4,w5,w6,w7,w8,w9,w10,w11,w12,w13,w14]→∀p∈l',p.size≤1048576:=fun l' hl' p hp=>by have:=hs p (hl' hp);omega
 simp only[go_sem,Q,I2.row];refine⟨by omega,(mA [w2,w3,w4] (by simp) (hss _ (by simp))).use ?_⟩;rintro _ ⟨ns,ok1,⟨q1,q2⟩,rfl⟩;simp only[go_sem,Q,I2.row];refine⟨⟨by omega,by omega⟩,(FN w5 (hs _ (by simp))).use ?_⟩;rintro _ ⟨cp,ok2,⟨q3,q4⟩,rfl⟩;simp only[go_sem,Q,I2.row];refine⟨by omega,(mA [w6,w7,w8,w9,w10,w11,w12,w13,w14] (by simp) (hss _ (by simp))).use ?_⟩;rintro _ ⟨ms,ok3,⟨q5,q6⟩,rfl⟩;simp only[go_sem,Q,I2.row];refine aA (fun hb=>?_) (fun hb=>?_)
 ·simp only[go_sem,Q,I2.row];refine bF Q ⟨Nat.zero_lt_one,rfl,Nat.le_of_ble_eq_true rfl⟩ fun G3 Q3 F3=>?_
  simp only[go_sem,Q3];refine h0 (fun a oa e=>?_) _ (rP I2 kk F3);simp only[Kz,List.cons.injEq,and_true]at e;obtain⟨rfl,rfl,rfl,rfl,rfl,rfl,rfl,rfl,rfl,rfl,rfl,rfl,rfl,rfl⟩:=e;cases ok1 with
  | false=>exact(q2 rfl).2 [a.count,a.src,a.dst] (by simp[oa.count,oa.src,oa.dst]) rfl
  | true=>
   cases ok2 with
   | false=>exact q4 rfl _ oa.cap rfl
   | true=>
    cases ok3 with
    | false=>exact(q6 rfl).2 [a.skills,a.profile,a.start,a.close,a.drive,a.rest,a.fixed,a.perMile,a.perTick] (by simp[oa.skills,oa.profile,oa.start,oa.close,oa.drive,oa.rest,oa.fixed,oa.perMile,oa.perTick]) rfl
    | true=>exact absurd hb (by decide)
 have hok:(ok1=true∧ok2=true)∧ok3=true:=by simpa using hb
 obtain⟨⟨rfl,rfl⟩,rfl⟩:=hok;obtain⟨r1,r2⟩:=q1 rfl;obtain⟨r3,r4⟩:=q3 rfl;obtain⟨r5,r6⟩:=q5 rfl;have h3:ns.length=3:=by have:=congrArg List.length r1;simpa using this.symm
 have h9:ms.length=9:=by have:=congrArg List.length r5;simpa using this.symm
 match ns,h3 with
 | [a0,a1,a2],_=>
 match ms,h9 with
 | [b0,b1,b2,b3,b4,b5,b6,b7,b8],_=>
 have hA:[w1,w2,w3,w4,w5,w6,w7,w8,w9,w10,w11,w12,w13,w14]=Kz ⟨w1,a0,a1,a2,cp,b0,b1,b2,b3,b4,b5,b6,b7,b8⟩:=by simp only[Xak,Xao,List.cons.injEq,and_true]at r1 r5;obtain⟨rfl,rfl,rfl⟩:=r1;obtain⟨rfl,rfl,rfl,rfl,rfl,rfl,rfl,rfl,rfl⟩:=r5;rw[r3];rfl
 have hcl:cp.length≤1048576:=by have:=uA cp;rw[←r3]at this;have:=hs w5 (by simp);omega
 simp only[go_sem,Q,I2.row];refine lO [] (.q 0 (.q 2 (.q 3 (.q 4 (.q 5 (.q 6 (.q 7 (.q 8 (.q 9 (.q 10 (.q 11 (.q 12 (.q 13 (.q 14 (.q 15 (.q 16 (.q 17 (.q 18 (.q 19 (.q 20 (.q 21 (.q 22 (.q 23 (.q 24 (.q 25 (.q 26 (.q 27 (.q 28 (.q 29 (.q 30 (.q 31 (.q 32 (.q 33 (.q 34 (.q 35 (.q 36 (.q 37 (.q 38 (.q 39 (.q 40 (.q 41 (.q 42 (.a2 1 (.a1 43 (.a1 44 (.q 45 (.a1 46 .nil)))) 43 (.a1 1 (.a1 44 (.q 45 (.a1 46 .nil))))))))))))))))))))))))))))))))))))))))))))))) (by simp) (by kernel_rfl) fun Hp Hr _ hr _ _=>?_
 obtain rfl:Hr=G':=funext fun k=>hr k (by simp)
 simp only[go_sem,Q,I2.row];refine⟨by omega,by omega,by omega,by omega,by omega,by omega,by omega,by omega,by omega,by omega,by omega,by omega,by omega,?_,?_⟩
 all_goals
  simp only[go_sem,Q,I2.row];refine mH (I2.d 2 (by decide)) ⟨rfl,rfl⟩ (by simp only[go_sem,aB,aX]) (by simp only[dC,Xab,Xaa,List.length_nil];omega) fun j' G2 A N2=>?_
  have B:=(N2 p _ (I2.nb 2 (by decide)).symm I2.row).2;have Q2:=(N2 q _ (oq.2 2 (by decide)) Q).2;simp only[go_sem,B];refine bU QL B ⟨Nat.zero_lt_one,rfl,Nat.le_of_ble_eq_true rfl⟩ fun G3 B3 F3=>?_
  simp only[go_sem];refine cV fun _ Hm _ hm2=>?_
  obtain rfl:Hm=G3:=funext fun k=>hm2 k (by simp)
  have Q3:=F3 _ _ oq.1 Q2;simp only[go_sem,B3,Q3];refine bF Q3 ⟨Nat.zero_lt_one,rfl,Nat.le_of_ble_eq_true rfl⟩ fun G4 Q4 F4=>?_
  simp only[go_sem,Q4];have A2:G2 j'=some (dC (eH x (.type ⟨w1,a0,a1,a2,cp,b0,b1,b2,b3,b4,b5,b6,b7,b8⟩)) 2):=A.trans (by simp only[dC,eH,cA,Sk.eD,Sk.gE,Sk.gF,Sk.eN,Xal];rfl);obtain⟨f1,f2⟩:=D7 (y:=eH x (.type ⟨w1,a0,a1,a2,cp,b0,b1,b2,b3,b4,b5,b6,b7,b8⟩)) (j:=2) I2 Q oq kk (by decide) A2 N2 (fun i hi hne=>kU (.type ⟨w1,a0,a1,a2,cp,b0,b1,b2,b3,b4,b5,b6,b7,b8⟩) hi hne) B3 F3 F4;exact h1 ⟨w1,a0,a1,a2,cp,b0,b1,b2,b3,b4,b5,b6,b7,b8⟩ _ _ ⟨by have:=hs w1 (by simp);show w1.size≤_;omega,r2 _ (by simp),r2 _ (by simp),r2 _ (by simp),hcl,r4,r6 _ (by simp),r6 _ (by simp),r6 _ (by simp),r6 _ (by simp),r6 _ (by simp),r6 _ (by simp),r6 _ (by simp),r6 _ (by simp),r6 _ (by simp)⟩ hA f1 f2
theorem Pt(I:ID H n x)(hx:x.apart.length≤100000)(hx2:x.before.length≤100000)(w0:ByteArray)(r:List ByteArray)(hs:∀p∈r,p.size≤1048575)(hl:r.length≤1048575)
  (h1:∀a H' n',kZ a→r=[aH a.a,aH a.b]→w0=W 4→ID H' n' (eH x (.apart a))→mB n n' H H'→K (.tup [xA n',boo true]) H')
  (h2:∀a H' n',kZ a→r=[aH a.a,aH a.b]→w0≠W 4→ID H' n' (eH x (.before a))→mB n n' H H'→K (.tup [xA n',boo true]) H')
  (h0:(∀a:Pair,kZ a→r≠[aH a.a,aH a.b])→∀H',mB n n H H'→K (.tup [xA n,boo false]) H'):cK prog 88 [xA n,.sl ((w0::r).map D.bE)] H K:=by
 refine cK.body (c:=f88.body.getD .skip) (fun t=>t == 2) mixed func88 rfl (by kernel_rfl) ?_;unfold f88;simp only[Xai];simp only[go_sem];refine aL fun p G hp0 (P:G p=some (nL n)) N=>?_
 have I1:IH G p n x:=⟨P,fun i hi=>(N (I.d i hi)).2,fun i hi=>(N (I.d i hi)).1,I.nn⟩;have k1:∀k row,nX n k→H k=some row→G k=some row∧k≠p:=fun k row _ h=>⟨(N h).2,(N h).1⟩
 clear N hp0 P;simp only[go_sem];refine aL fun q G' hq0 (Q:G' q=some ⟨31,6,[aO x0]⟩) N=>?_
 obtain⟨I2,oq⟩:=I1.new N;have kk:∀k row,nX n k→H k=some row→G' k=some row∧k≠p∧k≠q:=fun k row o h=>⟨(N (k1 k row o h).1).2,(k1 k row o h).2,(N (k1 k row o h).1).1⟩
 clear N hq0 k1 I1;simp only[go_sem,Q,I2.row];refine aA (fun hb=>?_) (fun hb=>?_)
 ·simp only[go_sem,Q,I2.row];refine bF Q ⟨Nat.zero_lt_one,rfl,Nat.le_of_ble_eq_true rfl⟩ fun G3 Q3 F3=>?_
  simp only[go_sem,Q3];refine h0 (fun a _ e=>?_) _ (rP I2 kk F3);rw[e]at hb;exact absurd hb (by simp)
 have h3:r.length=2:=by
  have:(((w0::r).length:Nat):Int)=3:=by simpa using hb
  simp only[Xaa]at this;omega
 match r,h3 with
 | [w1,w2],_=>
 simp only[go_sem,Q,I2.row];refine⟨by omega,(mA [w1,w2] (by simp) fun p hp=>by have:=hs p hp;omega).use ?_⟩;rintro _ ⟨ns,ok1,⟨q1,q2⟩,rfl⟩;simp only[go_sem,Q,I2.row];refine aA (fun hb=>?_) (fun hb=>?_)
 ·simp only[go_sem,Q,I2.row];refine bF Q ⟨Nat.zero_lt_one,rfl,Nat.le_of_ble_eq_true rfl⟩ fun G3 Q3 F3=>?_
  simp only[go_sem,Q3];refine h0 (fun a oa e=>?_) _ (rP I2 kk F3);exact(q2 (by simpa using hb)).2 [a.a,a.b] (by simp[oa.1,oa.2]) e
 have hok:ok1=true:=by simpa using hb
 subst hok;obtain⟨r1,r2⟩:=q1 rfl;have h3:ns.length=2:=by have:=congrArg List.length r1;simpa using this.symm
 match ns,h3 with
 | [a0,a1],_=>
 simp only[go_sem,Q,I2.row];refine⟨⟨by omega,by omega⟩,aA (fun hb=>?_) (fun hb=>?_)⟩
 ·simp only[go_sem,Q,I2.row];refine lO [] (.q 0 (.q 2 (.q 3 (.q 4 (.q 5 (.q 6 (.q 7 (.q 8 (.a2 1 (.a1 9 (.a1 10 (.q 11 (.a1 12 .nil)))) 9 (.a1 1 (.a1 10 (.q 11 (.a1 12 .nil))))))))))))) (by simp) (by kernel_rfl) fun Hp Hr _ hr _ _=>?_
  obtain rfl:Hr=G':=funext fun k=>hr k (by simp)
  simp only[go_sem,Q,I2.row];refine⟨by omega,by omega,?_,?_⟩
  all_goals
   simp only[go_sem,Q,I2.row];refine mH (I2.d 4 (by decide)) ⟨rfl,rfl⟩ (by simp only[go_sem,aB,aX]) (by simp only[dC,Xab,Xaa,List.length_nil];omega) fun j' G2 A N2=>?_
   have B:=(N2 p _ (I2.nb 4 (by decide)).symm I2.row).2;have Q2:=(N2 q _ (oq.2 4 (by decide)) Q).2;simp only[go_sem,B];refine bU EU B ⟨Nat.zero_lt_one,rfl,Nat.le_of_ble_eq_true rfl⟩ fun G3 B3 F3=>?_
   simp only[go_sem];refine cV fun _ Hm _ hm2=>?_
   obtain rfl:Hm=G3:=funext fun k=>hm2 k (by simp)
   have Q3:=F3 _ _ oq.1 Q2;simp only[go_sem,B3,Q3];refine bF Q3 ⟨Nat.zero_lt_one,rfl,Nat.le_of_ble_eq_true rfl⟩ fun G4 Q4 F4=>?_
   simp only[go_sem,Q4];have A2:G2 j'=some (dC (eH x (.apart ⟨a0,a1⟩)) 4):=A.trans (by simp only[dC,eH,cA,Sk.eD,Sk.gE,Sk.gF,Sk.eN,Xal];rfl);obtain⟨f1,f2⟩:=D7 (y:=eH x (.apart ⟨a0,a1⟩)) (j:=4) I2 Q oq kk (by decide) A2 N2 (fun i hi hne=>kU (.apart ⟨a0,a1⟩) hi hne) B3 F3 F4;exact h1 ⟨a0,a1⟩ _ _ ⟨r2 _ (by simp),r2 _ (by simp)⟩ r1 (fP hb) f1 f2
 ·simp only[go_sem,Q,I2.row];refine lO [] (.q 0 (.q 2 (.q 3 (.q 4 (.q 5 (.q 6 (.q 7 (.q 8 (.a2 1 (.a1 9 (.a1 10 (.q 11 (.a1 12 .nil)))) 9 (.a1 1 (.a1 10 (.q 11 (.a1 12 .nil))))))))))))) (by simp) (by kernel_rfl) fun Hp Hr _ hr _ _=>?_
  obtain rfl:Hr=G':=funext fun k=>hr k (by simp)
  simp only[go_sem,Q,I2.row];refine⟨by omega,by omega,?_,?_⟩
  all_goals
   simp only[go_sem,Q,I2.row];refine mH (I2.d 5 (by decide)) ⟨rfl,rfl⟩ (by simp only[go_sem,aB,aX]) (by simp only[dC,Xab,Xaa,List.length_nil];omega) fun j' G2 A N2=>?_
   have B:=(N2 p _ (I2.nb 5 (by decide)).symm I2.row).2;have Q2:=(N2 q _ (oq.2 5 (by decide)) Q).2;simp only[go_sem,B];refine bU EU B ⟨Nat.zero_lt_one,rfl,Nat.le_of_ble_eq_true rfl⟩ fun G3 B3 F3=>?_
   simp only[go_sem];refine cV fun _ Hm _ hm2=>?_
   obtain rfl:Hm=G3:=funext fun k=>hm2 k (by simp)
   have Q3:=F3 _ _ oq.1 Q2;simp only[go_sem,B3,Q3];refine bF Q3 ⟨Nat.zero_lt_one,rfl,Nat.le_of_ble_eq_true rfl⟩ fun G4 Q4 F4=>?_
   simp only[go_sem,Q4];have A2:G2 j'=some (dC (eH x (.before ⟨a0,a1⟩)) 5):=A.trans (by simp only[dC,eH,cA,Sk.eD,Sk.gE,Sk.gF,Sk.eN,Xal];rfl);obtain⟨f1,f2⟩:=D7 (y:=eH x (.before ⟨a0,a1⟩)) (j:=5) I2 Q oq kk (by decide) A2 N2 (fun i hi hne=>kU (.before ⟨a0,a1⟩) hi hne) B3 F3 F4;exact h2 ⟨a0,a1⟩ _ _ ⟨r2 _ (by simp),r2 _ (by simp)⟩ r1 (fun e=>by rw[e]at hb;exact absurd hb (by decide +kernel)) f1 f2
end
end Sp
namespace Sp
open Go.Proofs.Tryz
open Go.Proofs.YthbiheckeoknlaaGreatDoor
open Go.Proofs.YthbiheckeoknlaaGreatDoor.Nw (ltB geB eT cB)
open Go.Proofs.YthbiheckeoknlaaGreatDoor.Sk
open Go.Proofs.YthbiheckeoknlaaGreatDoor.Sc hiding aW
section
variable{H G G2 G3 G4:aC}{K:AV→aC→Prop}{n:Nat→Nat}{x y:Instance}{p q j j':Nat}{qr:Row}
theorem Ge(I:ID H n x)(hx:x.orders.length≤100000)(w0:ByteArray)(r:List ByteArray)(hs:∀p∈r,p.size≤1048575)(hl:r.length≤1048575)
  (h1:∀a H' n',OkOrder a→r=EH a→ID H' n' (eH x (.order a))→mB n n' H H'→K (.tup [xA n',boo true]) H')
  (h0:(∀a,OkOrder a→r≠EH a)→∀H',mB n n H H'→K (.tup [xA n,boo false]) H'):cK prog 87 [xA n,.sl ((w0::r).map D.bE)] H K:=by
 refine cK.body (c:=f87.body.getD .skip) (fun t=>t == 2) mixed func87 rfl (by kernel_rfl) ?_;unfold f87;simp only[Xai];simp only[go_sem];refine aL fun p G hp0 (P:G p=some (nL n)) N=>?_
 have I1:IH G p n x:=⟨P,fun i hi=>(N (I.d i hi)).2,fun i hi=>(N (I.d i hi)).1,I.nn⟩;have k1:∀k row,nX n k→H k=some row→G k=some row∧k≠p:=fun k row _ h=>⟨(N h).2,(N h).1⟩
 clear N hp0 P;simp only[go_sem];refine aL fun q G' hq0 (Q:G' q=some ⟨31,6,[aO x0]⟩) N=>?_
 obtain⟨I2,oq⟩:=I1.new N;have kk:∀k row,nX n k→H k=some row→G' k=some row∧k≠p∧k≠q:=fun k row o h=>⟨(N (k1 k row o h).1).2,(k1 k row o h).2,(N (k1 k row o h).1).1⟩
 clear N hq0 k1 I1;simp only[go_sem,Q,I2.row];by_cases h10:r.length=10;rotate_left
 ·have hT:(((r.length+1:Nat):Int) != 11)=true:=by rw[bne_iff_ne];omega
  obtain⟨o9,ho9⟩:∃o,r[9]?=o:=⟨_,rfl⟩;cases o9 with
  | none=>
   have hg:(r.map D.bE).getD 9 []=[]:=by rw[List.getD_eq_getElem?_getD,List.getElem?_map,ho9];rfl
   simp only[go_sem,hT,hg,Xbi,Bool.true_or,List.getD_nil,Q,I2.row];refine⟨true,aA (fun _=>?_) (fun hb=>absurd hb (by decide))⟩;simp only[go_sem,Q,I2.row];refine bF Q ⟨Nat.zero_lt_one,rfl,Nat.le_of_ble_eq_true rfl⟩ fun G3 Q3 F3=>?_
   simp only[go_sem,Q3];refine h0 (fun a _ e=>?_) _ (rP I2 kk F3);rw[e]at h10;exact absurd h10 (by simp[EH])
  | some v=>
   have hg:(r.map D.bE).getD 9 []=D.bE v:=by rw[List.getD_eq_getElem?_getD,List.getElem?_map,ho9];rfl
   simp only[go_sem,hT,hg,Xbi,Bool.true_or,Q,I2.row];refine aA (fun _=>?_) (fun hb=>absurd hb (by decide));simp only[go_sem,Q,I2.row];refine bF Q ⟨Nat.zero_lt_one,rfl,Nat.le_of_ble_eq_true rfl⟩ fun G3 Q3 F3=>?_
   simp only[go_sem,Q3];refine h0 (fun a _ e=>?_) _ (rP I2 kk F3);rw[e]at h10;exact absurd h10 (by simp[EH])
 match r,h10 with
 | [w1,w2,w3,w4,w5,w6,w7,w8,w9,w10],_=>
 have hss:∀l':List ByteArray,l' ⊆ [w1,w2,w3,w4,w5,w6,w7,w8,w9,w10]→∀p∈l',p.size≤1048576:=fun l' hl' p hp=>by have:=hs p (hl' hp);omega
 simp only[go_sem,Q,I2.row];refine⟨fun _=>⟨by omega,by omega⟩,fun _=>⟨by omega,by omega⟩,aA (fun hb=>?_) (fun hb=>?_)⟩
 ·simp only[go_sem,Q,I2.row];refine bF Q ⟨Nat.zero_lt_one,rfl,Nat.le_of_ble_eq_true rfl⟩ fun G3 Q3 F3=>?_
  simp only[go_sem,Q3];refine h0 (fun a _ e=>?_) _ (rP I2 kk F3);simp only[EH,List.cons.injEq,and_true]at e;obtain⟨_,_,_,_,_,_,_,_,_,rfl⟩:=e;cases hof:a.off <;> rw[hof]at hb <;> exact absurd hb (by decide +kernel)
 obtain⟨off,rfl⟩:∃b,w10=onS b:=by
  by_cases h1:w10=⟨#[111,110]⟩
  ·exact⟨false,h1⟩
  by_cases h2:w10=⟨#[111,102,102]⟩
  ·exact⟨true,h2⟩
  exfalso;have e1:(w10.toList == (⟨#[111,110]⟩:ByteArray).toList)=false:=Bool.eq_false_iff.2 fun e=>h1 (fP e)
  have e2:(w10.toList == (⟨#[111,102,102]⟩:ByteArray).toList)=false:=Bool.eq_false_iff.2 fun e=>h2 (fP e)
  rw[e1,e2]at hb;exact absurd hb (by decide)
 clear hb;simp only[go_sem,Q,I2.row];refine⟨⟨by omega,by omega⟩,(FN w2 (hs _ (by simp))).use ?_⟩;rintro _ ⟨ld,ok1,⟨q1,q2⟩,rfl⟩;simp only[go_sem,Q,I2.row];refine⟨⟨by omega,by omega⟩,(Hw w3 (hs _ (by simp))).use ?_⟩;rintro _ ⟨pk,ok2,⟨q3,q4⟩,rfl⟩;simp only[go_sem,Q,I2.row];refine aL fun s G1 hs0 (S:G1 s=some ⟨62,4,[dQ ⟨0,0,0,0⟩]⟩) N=>?_
 obtain⟨I2,os⟩:=I2.new N;obtain⟨nqs,Q⟩:=N Q;replace kk:∀k row,nX n k→H k=some row→G1 k=some row∧k≠p∧k≠q∧k≠s:=fun k row o h=>⟨(N (kk k row o h).1).2,(kk k row o h).2.1,(kk k row o h).2.2,(N (kk k row o h).1).1⟩
 clear N hs0;simp only[go_sem,Q,I2.row,S];refine bF S ⟨Nat.zero_lt_one,rfl,Nat.le_of_ble_eq_true rfl⟩ fun G5 S5 F5=>?_
 replace I2:=I2.fr F5 os;replace Q:=F5 _ _ nqs Q;replace kk:∀k row,nX n k→H k=some row→G5 k=some row∧k≠p∧k≠q∧k≠s:=fun k row o h=>⟨F5 _ _ (kk k row o h).2.2.2 (kk k row o h).1,(kk k row o h).2⟩
 replace S:G5 s=some ⟨62,4,[dQ pk]⟩:=S5;clear F5 S5;simp only[go_sem,Q,I2.row,S];refine⟨⟨by omega,by omega⟩,(Hw w4 (hs _ (by simp))).use ?_⟩;rintro _ ⟨dr,ok3,⟨q5,q6⟩,rfl⟩;simp only[go_sem,Q,I2.row,S];refine aL fun t G1 ht0 (T:G1 t=some ⟨62,4,[dQ ⟨0,0,0,0⟩]⟩) N=>?_
 obtain⟨I2,ot⟩:=I2.new N;obtain⟨nqt,Q⟩:=N Q;obtain⟨nst,S⟩:=N S;replace kk:∀k row,nX n k→H k=some row→G1 k=some row∧k≠p∧k≠q∧k≠s∧k≠t:=fun k row o h=>⟨(N (kk k row o h).1).2,(kk k row o h).2.1,(kk k row o h).2.2.1,(kk k row o h).2.2.2,(N (kk k row o h).1).1⟩
 clear N ht0;simp only[go_sem,Q,I2.row,T,S];refine bF T ⟨Nat.zero_lt_one,rfl,Nat.le_of_ble_eq_true rfl⟩ fun G5 S5 F5=>?_
 replace I2:=I2.fr F5 ot;replace Q:=F5 _ _ nqt Q;replace S:=F5 _ _ nst S;replace kk:∀k row,nX n k→H k=some row→G5 k=some row∧k≠p∧k≠q∧k≠s∧k≠t:=fun k row o h=>⟨F5 _ _ (kk k row o h).2.2.2.2 (kk k row o h).1,(kk k row o h).2⟩
 replace T:G5 t=some ⟨62,4,[dQ dr]⟩:=S5;clear F5 S5;simp only[go_sem,Q,I2.row,T,S];refine⟨by omega,(mA [w5,w6,w7,w8,w9] (by simp) (hss _ (by simp))).use ?_⟩;rintro _ ⟨ms,ok4,⟨q7,q8⟩,rfl⟩;simp only[go_sem,Q,I2.row,S,T];refine aA (fun hb=>?_) (fun hb=>?_)
 ·simp only[go_sem,Q,I2.row];refine bF Q ⟨Nat.zero_lt_one,rfl,Nat.le_of_ble_eq_true rfl⟩ fun G3 Q3 F3=>?_
  simp only[go_sem,Q3];refine h0 (fun a oa e=>?_) _ fun k row o h=>⟨F3 _ _ (kk k row o h).2.2.1 (kk k row o h).1,o⟩
  simp only[EH,List.cons.injEq,and_true]at e;obtain⟨rfl,rfl,rfl,rfl,rfl,rfl,rfl,rfl,rfl,_⟩:=e;cases ok1 with
  | false=>exact q2 rfl _ oa.load rfl
  | true=>
   cases ok2 with
   | false=>exact q4 rfl _ oa.pick rfl
   | true=>
    cases ok3 with
    | false=>exact q6 rfl _ oa.drop rfl
    | true=>
     cases ok4 with
     | false=>exact(q8 rfl).2 [a.skills,a.penalty,a.split,a.last,a.now] (by simp[oa.skills,oa.penalty,oa.split,oa.last,oa.now]) rfl
     | true=>exact absurd hb (by decide)
 have hok:((ok1=true∧ok2=true)∧ok3=true)∧ok4=true:=by simpa using hb
 obtain⟨⟨⟨rfl,rfl⟩,rfl⟩,rfl⟩:=hok;obtain⟨r1,r2⟩:=q1 rfl;obtain⟨r3,r4⟩:=q3 rfl;obtain⟨r5,r6⟩:=q5 rfl;obtain⟨r7,r8⟩:=q7 rfl;have h5:ms.length=5:=by have:=congrArg List.length r7;simpa using this.symm
 match ms,h5 with
 | [b0,b1,b2,b3,b4],_=>
 have hA:[w1,w2,w3,w4,w5,w6,w7,w8,w9,onS off]=EH ⟨w1,ld,pk,dr,b0,b1,b2,b3,b4,off⟩:=by simp only[Xak,Xao,List.cons.injEq,and_true]at r7;obtain⟨rfl,rfl,rfl,rfl,rfl⟩:=r7;rw[r1,r3,r5];rfl
 have hcl:ld.length≤1048576:=by have:=uA ld;rw[←r1]at this;have:=hs w2 (by simp);omega
 simp only[go_sem,Q,I2.row,S,T];refine lO [s,t] (.q 0 (.q 2 (.q 3 (.q 4 (.q 5 (.q 6 (.q 7 (.q 8 (.q 9 (.q 10 (.q 11 (.q 12 (.q 13 (.q 14 (.q 15 (.q 16 (.q 17 (.q 18 (.q 19 (.q 20 (.q 21 (.q 22 (.q 23 (.q 24 (.q 25 (.q 26 (.q 27 (.a2 1 (.a1 28 (.a1 29 (.q 30 (.a1 31 .nil)))) 28 (.a1 1 (.a1 29 (.q 30 (.a1 31 .nil)))))))))))))))))))))))))))))))) (by simp[S,T]) (by kernel_rfl) fun Hp Hr hp hr _ _=>?_
 replace S:=(hp s (by simp)).trans S;replace T:=(hp t (by simp)).trans T;have sub:∀k row,k≠s→k≠t→G5 k=some row→Hr k=some row:=fun k row h1 h2 h=>(hr k (by simp[h1,h2])).trans h
 replace Q:=sub _ _ nqs nqt Q;replace I2:IH Hr p n x:=Q5 I2 fun k row hk h=>by
  rcases hk with rfl|⟨i,hi,rfl⟩
  ·exact sub _ _ os.1.symm ot.1.symm h
  ·exact sub _ _ (os.2 i hi).symm (ot.2 i hi).symm h
 replace kk:∀k row,nX n k→H k=some row→Hr k=some row∧k≠p∧k≠q:=fun k row o h=>⟨sub _ _ (kk k row o h).2.2.2.1 (kk k row o h).2.2.2.2 (kk k row o h).1,(kk k row o h).2.1,(kk k row o h).2.2.1⟩
 clear hp hr sub;simp only[dQ]at S T;simp only[go_sem,Q,I2.row,S,T];refine⟨by omega,by omega,by omega,by omega,by omega,by omega,by omega,?_,?_⟩
 all_goals
  simp only[go_sem,Q,I2.row,S,T,So];refine mH (I2.d 3 (by decide)) ⟨rfl,rfl⟩ (by simp only[go_sem]) (by simp only[dC,Xab,Xaa,List.length_nil];omega) fun j' G2 A N2=>?_
  have B:=(N2 p _ (I2.nb 3 (by decide)).symm I2.row).2;have Q2:=(N2 q _ (oq.2 3 (by decide)) Q).2;simp only[go_sem,B];refine bU QR B ⟨Nat.zero_lt_one,rfl,Nat.le_of_ble_eq_true rfl⟩ fun G3 B3 F3=>?_
  simp only[go_sem];refine cV fun h00 Hm _ hm2=>?_
  have Sp:Sup G3 Hm:=fun k row h=>(hm2 k (fun hk=>by rw[h00 k hk]at h;cases h)).trans h
  replace F3:Fr p G2 Hm:=fun k row hk h=>Sp k row (F3 k row hk h)
  replace B3:=Sp _ _ B3;clear Sp hm2 h00;have Q3:=F3 _ _ oq.1 Q2;simp only[go_sem,B3,Q3];refine bF Q3 ⟨Nat.zero_lt_one,rfl,Nat.le_of_ble_eq_true rfl⟩ fun G4 Q4 F4=>?_
  simp only[go_sem,Q4];have A2:G2 j'=some (dC (eH x (.order ⟨w1,ld,pk,dr,b0,b1,b2,b3,b4,off⟩)) 3):=A.trans (by simp only[dC,eH,cA,Sk.eD,Sk.gE,Sk.gF,Sk.eN,Xal];rfl);obtain⟨f1,f2⟩:=D7 (y:=eH x (.order ⟨w1,ld,pk,dr,b0,b1,b2,b3,b4,off⟩)) (j:=3) I2 Q oq kk (by decide) A2 N2 (fun i hi hne=>kU (.order ⟨w1,ld,pk,dr,b0,b1,b2,b3,b4,off⟩) hi hne) B3 F3 F4;exact h1 ⟨w1,ld,pk,dr,b0,b1,b2,b3,b4,off⟩ _ _ ⟨by have:=hs w1 (by simp);show w1.size≤_;omega,hcl,r2,r4,r6,r8 _ (by simp),r8 _ (by simp),r8 _ (by simp),r8 _ (by simp),r8 _ (by simp)⟩ hA f1 f2
end
end Sp
end Go.Proofs.YthbiheckeoknlaaGreatDoor
