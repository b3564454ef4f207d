/- Texts joined by a program: RefI. -/
import Derived.Test.YtdlijlecpopadaaGreatDoorZz20
import Derived.Test.YtdlijlecpopadaaGreatDoorZz21

set_option linter.unusedSimpArgs false
set_option linter.unusedVariables false
namespace Go.Proofs.YtdlijlecpopadaaGreatDoor
open Go.Aw Go.Aw.D Go.Proofs Ty
set_option maxRecDepth 100000
def pAt(l:List Pair)(i:Nat):Pair:=l.getD i ⟨0,0⟩
theorem Ii{l:List Pair}{k:Nat}{p:Pair}(h:l[k]?=some p):pAt l k=p:=by simp[pAt,List.getD,h]
def wH(w:ByteArray)(k:Nat):ByteArray:=w++⟨#[32]⟩++jO k
def Ac(N:Int)(p:Pair):Bool:=decide (p.a<0)||decide (p.a≥N)||decide (p.b<0)||decide (p.b≥N)||p.a == p.b
def wT(b:Bool)(p q:Pair):Bool:=(q.a == p.a&&q.b == p.b)||(b&&q.a == p.b&&q.b == p.a)
def gI(N:Int)(l:List Pair)(w:ByteArray)(b:Bool)(k:Nat):List Fault:=match Ac N (pAt l k)with
 | true=>[⟨2,wH w k⟩]
 | false=>opt ((l.take k).any (wT b (pAt l k))) ⟨6,wH w k⟩
theorem wV(N:Int)(l:List Pair)(w:ByteArray)(b:Bool)(k:Nat):(gI N l w b k).length≤1:=by
 unfold gI;split
 · simp
 · exact cH _ _
def sI(N:Int)(l:List Pair)(w:ByteArray)(b:Bool):List Fault:=opt (decide ((l.length:Int)>16)) ⟨4,w⟩++(List.range l.length).flatMap (gI N l w b)
theorem J1(N : Int)(l : List Pair)(w : ByteArray)(b : Bool)(hl : l.length ≤ 1048576)(hw : w.size ≤ 1048576):
   NC Tryz.prog 74 [int N,.sl (l.map gL),str w,boo b] (bF (sI N l w b)) .os:=by
 refine NC.body (c:=Tryz.f74.body.getD .skip) (fun t=>t == 9) mixed Tryz.func74 rfl (by kernel_rfl) ?_;unfold Tryz.f74;simp only[Option.getD_some];simp only[go_sem];refine aL fun j hj=>?_
 simp only[go_sem];refine oV (fun ρ' H'=>ρ' 0=int N∧ρ' 1=.sl (l.map gL)∧ρ' 2=str w∧ρ' 3=boo b∧∃j',ρ' 9=.os j'∧H' j'=some (bF [])) ⟨by simp only[go_sem],by simp only[go_sem],by simp only[go_sem],by simp only[go_sem],_,by simp only[go_sem],aA _ _ _⟩ ?_;rintro ρ H ⟨h0,h1,h2,h3,j,h9,hH⟩;generalize hes0:([]:List Fault)=es0 at hH;have hln0:es0.length≤0:=by rw[←hes0];exact Nat.le_refl _
 refine aW (fun ρ' H'=>ρ' 0=int N∧ρ' 1=.sl (l.map gL)∧ρ' 2=str w∧ρ' 3=boo b∧∃j',ρ' 9=.os j'∧H' j'=some (bF (es0++opt (decide ((l.length:Int)>16)) ⟨4,w⟩))) ?_ fun K hK=>aB (fun hb=>?_) (fun hb=>?_)
 rotate_left
 · simp only[go_sem,h0,h1,h2,h3,h9]
   refine aX hH ⟨rfl,rfl⟩ (by simp only[go_sem]) (by simp only[List.length_map,List.length_cons,List.length_nil];omega) (fun j' hj'=>?_);simp only[go_sem];refine hK _ _ ⟨by simp only[go_sem,h0],by simp only[go_sem,h1],by simp only[go_sem,h2],by simp only[go_sem,h3],j',by simp only[go_sem],?_⟩;rw[iM (show(decide ((l.length:Int)>16))=true from hb)];exact fD (l':=[⟨4,w⟩]) rfl
 · simp only[go_sem]
   refine hK _ _ ⟨by simp only[go_sem,h0],by simp only[go_sem,h1],by simp only[go_sem,h2],by simp only[go_sem,h3],j,by simp only[go_sem,h9],?_⟩;rw[iL (show(decide ((l.length:Int)>16))=false from hb),List.append_nil,hH]
 clear hH h0 h1 h2 h3 h9;rintro ρ H ⟨h0,h1,h2,h3,j,h9,hH⟩;generalize hes1:es0++opt (decide ((l.length:Int)>16)) (⟨4,w⟩:Fault)=es1 at hH;have hln1:es1.length≤es0.length+1:=by rw[←hes1,List.length_append];have:=cH (decide ((l.length:Int)>16)) (⟨4,w⟩:Fault);omega
 simp only[go_sem,h0,h1,h2,h3,h9];refine⟨fun ρ H=>∃k:Nat,k≤l.length∧ρ 0=int N∧ρ 1=.sl (l.map gL)∧ρ 2=str w∧ρ 3=boo b∧ρ 10=int k∧∃j,ρ 9=.os j∧H j=some (bF (es1++(List.range k).flatMap (gI N l w b))),fun ρ _=>l.length-bE (ρ 10),
   ⟨0,Nat.zero_le _,by simp only[go_sem,h0],by simp only[go_sem,h1],by simp only[go_sem,h2],by simp only[go_sem,h3],by simp only[go_sem];rfl,j,by simp only[go_sem,h9],by simpa using hH⟩,?_⟩
 clear hH h0 h1 h2 h3 h9 hj;rintro ρ H ⟨k,hk,h0,h1,h2,h3,h10,j,h9,hH⟩;generalize hes:es1++(List.range k).flatMap (gI N l w b)=es at hH;have hlen:es.length≤k+1:=by
   have:=fE (wV N l w b) (List.range k);rw[←hes,List.length_append];rw[List.length_range]at this;omega
 simp only[go_sem,h0,h1,h2,h3,h9,h10];refine aB (fun hlt=>?_) (fun hge=>?_)
 · have hlt:=cJ hlt
   have hkk:k≤4611686018427387904:=by omega
   obtain⟨p,hp⟩:=aU hlt;have b1:=inB hlt;have hds:=nE k;have h32:(#[32]:Array UInt8).size=1:=rfl;have hfl:es1++(List.range (k+1)).flatMap (gI N l w b)=es++gI N l w b k:=by rw[iC,←List.append_assoc,hes]
   simp only[go_sem,h0,h1,h2,h3,h9,h10,b1,aH hp];refine⟨by omega,by omega,by rw[tV];omega,?_⟩;refine PC.use (Xb _ (by omega)) ?_;simp only[go_sem,h0,h1,h2,h3,h9,h10];refine⟨by rw[tV];omega,?_⟩;refine aB (fun hb=>?_) (fun hb=>?_)
   · simp only[go_sem,h0,h1,h2,h3,h9,h10]
     refine aX hH ⟨rfl,rfl⟩ (by simp only[go_sem]) (by simp only[List.length_map,List.length_cons,List.length_nil];omega) (fun j' hj'=>?_);simp only[go_sem,h0,h1,h2,h3,h10,bA hkk];refine⟨⟨k+1,hlt,rfl,j',rfl,?_⟩,by simp only[aJ];omega⟩;have hn:Ac N (pAt l k)=true:=by rw[Ii hp];exact hb
     rw[hfl,gI,hn];exact fD (l':=[⟨2,wH w k⟩]) rfl
   · simp only[go_sem,h0,h1,h2,h3,h9,h10]
     have hn:Ac N (pAt l k)=false:=by rw[Ii hp];exact hb
     refine⟨fun ρ H'=>∃m:Nat,m≤k∧ρ 0=int N∧ρ 1=.sl (l.map gL)∧ρ 2=str w∧ρ 3=boo b∧ρ 9=.os j∧ρ 10=int k∧ρ 11=int p.a∧ρ 12=int p.b∧ρ 13=str (wH w k)∧ρ 14=boo ((l.take m).any (wT b p))∧ρ 15=int m∧H'=H,fun ρ _=>k-bE (ρ 15),
       ⟨0,Nat.zero_le _,by simp only[go_sem,h0],by simp only[go_sem,h1],by simp only[go_sem,h2],by simp only[go_sem,h3],by simp only[go_sem,h9],by simp only[go_sem,h10],by simp only[go_sem],by simp only[go_sem],by simp only[go_sem];rfl,by simp only[go_sem];rfl,by simp only[go_sem];rfl,rfl⟩,?_⟩
     clear h0 h1 h2 h3 h9 h10;rintro ρ H' ⟨m,hm,h0,h1,h2,h3,h9,h10,h11,h12,h13,h14,h15,rfl⟩;simp only[go_sem,h0,h1,h2,h3,h9,h10,h11,h12,h13,h14,h15];refine aB (fun hlt2=>?_) (fun hge2=>?_)
     · have hlt2:=cJ hlt2
       obtain⟨q,hq⟩:=aU (show m<l.length by omega);have b2:=inB (show m<l.length by omega);simp only[go_sem,h0,h1,h2,h3,h9,h10,h11,h12,h13,h14,h15,b2,aH hq,bA (show m≤4611686018427387904 by omega)];refine⟨fun _=>by omega,fun _=>by omega,fun _=>by omega,fun _=>by omega,⟨m+1,hlt2,?_,rfl⟩,by simp only[aJ];omega⟩;rw[Dq hq];simp only[wT,Bool.or_assoc]
     · have hge2:=cM hm hge2
       subst hge2;simp only[go_sem,h14];have hsb:(l.take m).any (wT b (pAt l m))=(l.take m).any (wT b p):=by rw[Ii hp]
       refine dW (fun ρ' H'=>ρ' 0=int N∧ρ' 1=.sl (l.map gL)∧ρ' 2=str w∧ρ' 3=boo b∧ρ' 10=int m∧∃j,ρ' 9=.os j∧H' j=some (bF (es1++(List.range (m+1)).flatMap (gI N l w b)))) ?_ fun K hK _ _=>aB (fun hb=>?_) (fun hb=>?_)
       · clear hH h0 h1 h2 h3 h9 h10
         rintro ρ H ⟨h0,h1,h2,h3,h10,j,h9,hH⟩;simp only[go_sem,h0,h1,h2,h3,h9,h10,bA hkk];exact⟨⟨m+1,hlt,rfl,j,rfl,hH⟩,by simp only[aJ];omega⟩
       · simp only[go_sem,h0,h1,h2,h3,h9,h10,h13]
         refine aX hH ⟨rfl,rfl⟩ (by simp only[go_sem]) (by simp only[List.length_map,List.length_cons,List.length_nil];omega) (fun j' hj'=>?_);simp only[go_sem];refine hK _ _ ⟨by simp only[go_sem,h0],by simp only[go_sem,h1],by simp only[go_sem,h2],by simp only[go_sem,h3],by simp only[go_sem,h10],j',by simp only[go_sem],?_⟩;rw[hfl,gI,hn];show _=some (bF (es++opt _ ⟨6,wH w m⟩));rw[iM (hsb.trans hb)];exact fD (l':=[⟨6,wH w m⟩]) rfl
       · simp only[go_sem]
         refine hK _ _ ⟨by simp only[go_sem,h0],by simp only[go_sem,h1],by simp only[go_sem,h2],by simp only[go_sem,h3],by simp only[go_sem,h10],j,by simp only[go_sem,h9],?_⟩;rw[hfl,gI,hn];show _=some (bF (es++opt _ ⟨6,wH w m⟩));rw[iL (hsb.trans hb),List.append_nil,hH]
 · have hge:=cM hk hge
   subst hge;simp only[go_sem,h9];exact⟨_,rfl,by rw[hH,←hes,←hes1,←hes0];rfl⟩
theorem oK:∀l:List Fault,eI 2 (l.map gH)
 | []=>trivial
 | f::r=>⟨rfl,oK r⟩
theorem tZ(N:Int)(l:List Pair)(w:ByteArray)(b:Bool):(sI N l w b).length≤l.length+1:=by
 have:=fE (wV N l w b) (List.range l.length);have h2:=cH (decide ((l.length:Int)>16)) (⟨4,w⟩:Fault);rw[sI,List.length_append];rw[List.length_range]at this;omega
theorem IA(N : Int)(ap be : List Pair)(hl : ap.length ≤ 1048576)(hl2 : be.length ≤ 1048576):
   NC Tryz.prog 34 [int N,.sl (ap.map gL),.sl (be.map gL)] (bF (sI N ap ⟨#[97,112,97,114,116]⟩ true++sI N be ⟨#[98,101,102,111,114,101]⟩ false)) .os:=by
 refine NC.body (c:=Tryz.f34.body.getD .skip) (fun t=>t == 7) mixed Tryz.func34 rfl (by kernel_rfl) ?_;unfold Tryz.f34;simp only[Option.getD_some];simp only[go_sem];refine NC.use (J1 N ap ⟨#[97,112,97,114,116]⟩ true hl (by decide)) fun j hj=>?_
 simp only[go_sem];refine NC.use (J1 N be ⟨#[98,101,102,111,114,101]⟩ false hl2 (by decide)) fun i hi=>?_
 simp only[go_sem];have l1:=tZ N ap ⟨#[97,112,97,114,116]⟩ true;have l2:=tZ N be ⟨#[98,101,102,111,114,101]⟩ false;refine AB (kA (aA _ _ _) hi) (aA _ _ _) ⟨rfl,rfl⟩ (oK _) (by simp only[List.length_map];omega) (fun j' hj'=>?_);simp only[go_sem];exact⟨_,rfl,fD rfl⟩
theorem NC.pc{f:FuncId}{args:List AV}{row:Row}(h:NC Tryz.prog f args row .os):PC Tryz.prog f args (.sl row.es):=
 RC.conv (RC.mono h fun r H' ⟨k,e,hk⟩=>by subst e;exact .row k row row.es hk (ConvE.refl _))
def mN(l:List Arc)(i:Nat):Arc:=l.getD i ⟨0,0,0,0,[],[]⟩
theorem nF{l:List Arc}{k:Nat}{p:Arc}(h:l[k]?=some p):mN l k=p:=by simp[mN,List.getD,h]
def gZ(k:Nat):ByteArray:=⟨#[97,114,99,32]⟩++jO k
def tU(N:Int)(a:Arc):Bool:=decide (a.src<0)||decide (a.src≥N)||decide (a.dst<0)||decide (a.dst≥N)
def xA(a:Arc):Bool:=decide (a.profile<0)||decide (a.profile>7)||decide (a.miles<0)||decide (a.miles>10000)||a.src == a.dst
def qA(a b:Arc):Bool:=a.src == b.src&&a.dst == b.dst&&a.profile == b.profile
def nX(l:List Point)(i:Nat):Bool:= !inR (dJ l i).t 0 4096|| !inR (dJ l i).a 0 4096||decide ((i:Int)>0)&&decide ((dJ l i).t≤(dJ l (i-1)).t)
def Cy(n:Network)(k:Nat):List Fault:=
 []++opt (tU n.places.length (mN n.arcs k)) ⟨11,gZ k⟩++opt (xA (mN n.arcs k)) ⟨2,gZ k⟩++opt ((n.arcs.take k).any (qA (mN n.arcs k))) ⟨6,gZ k⟩
   ++ (hU (mN n.arcs k).travel).map (fun f=>⟨f.err,gZ k⟩)++opt (decide (((mN n.arcs k).slow.length:Int)>16)) ⟨4,gZ k⟩
   ++ (List.range (mN n.arcs k).slow.length).flatMap fun i=>opt (nX (mN n.arcs k).slow i) ⟨2,gZ k⟩
theorem Gi(l:List Point)(hl:l.length≤1048576):PC Tryz.prog 131 [.sl (l.map bK)] (.sl ((hU l).map gH)):=NC.pc (UZ l hl)
theorem Cj(l:List Point):(hU l).length≤2*l.length+1:=by
 have:=fE (Ve l) (List.range l.length);have h2:=cH (zC l.length 1 16) (⟨4,ByteArray.empty⟩:Fault);rw[hU,List.length_append];rw[List.length_range]at this;omega
theorem akY(n : Network)(k : Nat)(hk : k < n.arcs.length)(hp : n.places.length ≤ 1048576)(hl : n.arcs.length ≤ 1048576)(hs : ∀ a ∈ n.arcs, a.travel.length ≤ 1048576 ∧ a.slow.length ≤ 1048576):
   NC Tryz.prog 69 [.agg (aT n),int k] (bF (Cy n k)) .os:=by
 refine NC.body (c:=Tryz.f69.body.getD .skip) (fun t=>t == 5) mixed Tryz.func69 rfl (by kernel_rfl) ?_;unfold Tryz.f69;simp only[Option.getD_some];simp only[go_sem];obtain⟨a,ha⟩:=aU hk;have b1:=inB hk;have hst:=hs a (jQ ha);have hds:=nE k;refine aL fun j hj=>?_
 simp only[go_sem];refine PC.use (qN _ (by omega)) ?_;simp only[go_sem,b1,aH ha];have h4:(#[97,114,99,32]:Array UInt8).size=4:=rfl;refine⟨by rw[tV];omega,aL fun i hi=>?_⟩;simp only[go_sem];refine aP (aA _ _ _) (by simp[dI]) ?_;simp only[go_sem];have hji:j≠i:=aN (aA _ _ _) hi;have he1:gZ k=⟨#[97,114,99,32]⟩++jO k:=rfl;refine oV (fun ρ' H'=>ρ' 1=int k∧ρ' 2=.rp (aT n) 0∧ρ' 6=str (gZ k)∧ρ' 7=.op i 0 0∧H' i=some (sF a)∧∃j',ρ' 5=.os j'∧j'≠i∧H' j'=some (bF []))
   ⟨by simp only[go_sem],by simp only[go_sem],by simp only[go_sem,he1],by simp only[go_sem],aA _ _ _,j,by simp only[go_sem],hji,by rw[aC _ _ _ _ hji,aC _ _ _ _ hji,aA];rfl⟩ ?_
 clear hi hj hji;rintro ρ H ⟨h1,h2,h6,h7,hi,j,h5,hji,hH⟩;generalize hes0:([]:List Fault)=es0 at hH;have hln0:es0.length≤0:=by rw[←hes0];exact Nat.le_refl _
 refine aW (fun ρ' H'=>ρ' 1=int k∧ρ' 2=.rp (aT n) 0∧ρ' 6=str (gZ k)∧ρ' 7=.op i 0 0∧H' i=some (sF a)∧∃j',ρ' 5=.os j'∧j'≠i∧H' j'=some (bF (es0++opt (tU n.places.length a) ⟨11,gZ k⟩))) ?_ fun K hK=>aB (fun hb=>?_) (fun hb=>?_)
 rotate_left
 · simp only[go_sem,h1,h2,h6,h7,h5]
   refine aX hH ⟨rfl,rfl⟩ (by simp only[go_sem]) (by simp only[List.length_map,List.length_cons,List.length_nil];omega) (fun j' hj'=>?_);simp only[go_sem];refine hK _ _ ⟨by simp only[go_sem,h1],by simp only[go_sem,h2],by simp only[go_sem,h6],by simp only[go_sem,h7],dP hi hji hj',j',by simp only[go_sem],(aN hi hj').symm,?_⟩;rw[iM (show(tU n.places.length a)=true from hb)];exact fD (l':=[⟨11,gZ k⟩]) rfl
 · simp only[go_sem]
   refine hK _ _ ⟨by simp only[go_sem,h1],by simp only[go_sem,h2],by simp only[go_sem,h6],by simp only[go_sem,h7],hi,j,by simp only[go_sem,h5],hji,?_⟩;rw[iL (show(tU n.places.length a)=false from hb),List.append_nil,hH]
 clear hH h1 h2 h6 h7 h5;rintro ρ H ⟨h1,h2,h6,h7,hi,j,h5,hji,hH⟩;generalize hes1:es0++opt (tU n.places.length a) (⟨11,gZ k⟩:Fault)=es1 at hH;have hln1:es1.length≤es0.length+1:=by rw[←hes1,List.length_append];have:=cH (tU n.places.length a) (⟨11,gZ k⟩:Fault);omega
 simp only[go_sem,h1,h2,h6,h7,h5,hi];refine aW (fun ρ' H'=>ρ' 1=int k∧ρ' 2=.rp (aT n) 0∧ρ' 6=str (gZ k)∧ρ' 7=.op i 0 0∧H' i=some (sF a)∧∃j',ρ' 5=.os j'∧j'≠i∧H' j'=some (bF (es1++opt (xA a) ⟨2,gZ k⟩))) ?_ fun K hK=>aB (fun hb=>?_) (fun hb=>?_)
 rotate_left
 · simp only[go_sem,h1,h2,h6,h7,h5]
   refine aX hH ⟨rfl,rfl⟩ (by simp only[go_sem]) (by simp only[List.length_map,List.length_cons,List.length_nil];omega) (fun j' hj'=>?_);simp only[go_sem];refine hK _ _ ⟨by simp only[go_sem,h1],by simp only[go_sem,h2],by simp only[go_sem,h6],by simp only[go_sem,h7],dP hi hji hj',j',by simp only[go_sem],(aN hi hj').symm,?_⟩;rw[iM (show(xA a)=true from hb)];exact fD (l':=[⟨2,gZ k⟩]) rfl
 · simp only[go_sem]
   refine hK _ _ ⟨by simp only[go_sem,h1],by simp only[go_sem,h2],by simp only[go_sem,h6],by simp only[go_sem,h7],hi,j,by simp only[go_sem,h5],hji,?_⟩;rw[iL (show(xA a)=false from hb),List.append_nil,hH]
 clear hH h1 h2 h6 h7 h5;rintro ρ H ⟨h1,h2,h6,h7,hi,j,h5,hji,hH⟩;generalize hes2:es1++opt (xA a) (⟨2,gZ k⟩:Fault)=es2 at hH;have hln2:es2.length≤es1.length+1:=by rw[←hes2,List.length_append];have:=cH (xA a) (⟨2,gZ k⟩:Fault);omega
 simp only[go_sem,h1,h2,h6,h7,h5,hi];refine⟨fun ρ' H'=>∃m:Nat,m≤k∧ρ' 1=int k∧ρ' 2=.rp (aT n) 0∧ρ' 6=str (gZ k)∧ρ' 7=.op i 0 0∧ρ' 5=.os j∧ρ' 8=boo ((n.arcs.take m).any (qA a))∧ρ' 9=int m∧H' i=some (sF a)∧H' j=some (bF es2),fun ρ _=>k-bE (ρ 9),
   ⟨0,Nat.zero_le _,by simp only[go_sem,h1],by simp only[go_sem,h2],by simp only[go_sem,h6],by simp only[go_sem,h7],by simp only[go_sem,h5],by simp only[go_sem];rfl,by simp only[go_sem];rfl,hi,hH⟩,?_⟩
 clear h1 h2 h6 h7 h5 hi hH;rintro ρ H ⟨m,hm,h1,h2,h6,h7,h5,h8,h9,hi,hH⟩;simp only[go_sem,h1,h2,h6,h7,h5,h8,h9];refine aB (fun hlt=>?_) (fun hge=>?_)
 · have hlt:=cJ hlt
   obtain⟨c,hc⟩:=aU (show m<n.arcs.length by omega);have b2:=inB (show m<n.arcs.length by omega);simp only[go_sem,h1,h2,h6,h7,h5,h8,h9,b2,aH hc];refine aL fun x hx=>?_
   simp only[go_sem];refine aP (aA _ _ _) (by simp[dI]) ?_;have hix:=aN hi hx;have hjx:=aN hH hx;simp only[go_sem,h1,h2,h6,h7,h5,h8,h9,aC _ _ _ _ hix,hi,bA (show m≤4611686018427387904 by omega)];refine⟨⟨m+1,hlt,?_,rfl,?_⟩,by simp only[aJ];omega⟩
   · rw[Dq hc];simp only[qA]
   · rw[aC _ _ _ _ hjx,aC _ _ _ _ hjx,hH]
 · have hge:=cM hm hge
   subst hge;simp only[go_sem,h1,h2,h6,h7,h5,h8,h9];clear h1 h2 h8 h9;refine aW (fun ρ' H'=>ρ' 6=str (gZ m)∧ρ' 7=.op i 0 0∧H' i=some (sF a)∧∃j',ρ' 5=.os j'∧j'≠i∧H' j'=some (bF (es2++opt ((n.arcs.take m).any (qA a)) ⟨6,gZ m⟩))) ?_ fun K hK=>aB (fun hb=>?_) (fun hb=>?_)
   rotate_left
   · simp only[go_sem,h6,h7,h5]
     refine aX hH ⟨rfl,rfl⟩ (by simp only[go_sem]) (by simp only[List.length_map,List.length_cons,List.length_nil];omega) (fun j' hj'=>?_);simp only[go_sem];refine hK _ _ ⟨by simp only[go_sem,h6],by simp only[go_sem,h7],dP hi hji hj',j',by simp only[go_sem],(aN hi hj').symm,?_⟩;rw[iM (show((n.arcs.take m).any (qA a))=true from hb)];exact fD (l':=[⟨6,gZ m⟩]) rfl
   · simp only[go_sem]
     refine hK _ _ ⟨by simp only[go_sem,h6],by simp only[go_sem,h7],hi,j,by simp only[go_sem,h5],hji,?_⟩;rw[iL (show((n.arcs.take m).any (qA a))=false from hb),List.append_nil,hH]
   clear hH h6 h7 h5;rintro ρ H ⟨h6,h7,hi,j,h5,hji,hH⟩;generalize hes3:es2++opt ((n.arcs.take m).any (qA a)) (⟨6,gZ m⟩:Fault)=es3 at hH;have hln3:es3.length≤es2.length+1:=by rw[←hes3,List.length_append];have:=cH ((n.arcs.take m).any (qA a)) (⟨6,gZ m⟩:Fault);omega
   simp only[go_sem,h6,h7,h5,hi];refine PC.use (Gi a.travel hst.1) ?_;simp only[go_sem];have htl:=Cj a.travel;have htr:(hU (mN n.arcs m).travel).map (fun f=>(⟨f.err,gZ m⟩:Fault))=(hU a.travel).map (fun f=>⟨f.err,gZ m⟩):=by rw[nF ha]
   generalize hU a.travel=tr at htl htr;refine⟨fun ρ H=>∃q:Nat,q≤tr.length∧ρ 6=str (gZ m)∧ρ 7=.op i 0 0∧ρ 11=.sl (tr.map gH)∧ρ 12=int q∧H i=some (sF a)∧∃j,ρ 5=.os j∧j≠i∧H j=some (bF (es3++(tr.take q).map fun f=>⟨f.err,gZ m⟩)),fun ρ _=>tr.length-bE (ρ 12),
     ⟨0,Nat.zero_le _,by simp only[go_sem,h6],by simp only[go_sem,h7],by simp only[go_sem],by simp only[go_sem];rfl,hi,j,by simp only[go_sem,h5],hji,by simpa using hH⟩,?_⟩
   clear h6 h7 h5 hi hH hji;rintro ρ H ⟨q,hq,h6,h7,h11,h12,hi,j,h5,hji,hH⟩;simp only[go_sem,h6,h7,h5,h11,h12];refine aB (fun hlt=>?_) (fun hge=>?_)
   · have hlt:=cJ hlt
     obtain⟨f,hf⟩:=aU hlt;have b2:=inB hlt;simp only[go_sem,h6,h7,h5,h11,h12,b2,aH hf];refine aX hH ⟨rfl,rfl⟩ (by simp only[go_sem]) (by simp only[List.length_map,List.length_append,List.length_take,List.length_cons,List.length_nil];omega) (fun j' hj'=>?_);simp only[go_sem,h6,h7,h5,h11,h12,bA (show q≤4611686018427387904 by omega)];refine⟨⟨q+1,hlt,rfl,dP hi hji hj',j',rfl,(aN hi hj').symm,?_⟩,by simp only[aJ];omega⟩;rw[Al hf,←List.append_assoc];exact fD (l':=[⟨f.err,gZ m⟩]) rfl
   · have hge:=cM hq hge
     subst hge;simp only[go_sem,h6,h7,h5,h11,h12,hi];clear h11 h12;rw[List.take_length]at hH;generalize hes4:es3++tr.map (fun f=>(⟨f.err,gZ m⟩:Fault))=es4 at hH;have hln4:es4.length=es3.length+tr.length:=by rw[←hes4,List.length_append,List.length_map]
     refine aW (fun ρ' H'=>ρ' 6=str (gZ m)∧ρ' 7=.op i 0 0∧H' i=some (sF a)∧∃j',ρ' 5=.os j'∧j'≠i∧H' j'=some (bF (es4++opt (decide ((a.slow.length:Int)>16)) ⟨4,gZ m⟩))) ?_ fun K hK=>aB (fun hb=>?_) (fun hb=>?_)
     rotate_left
     · simp only[go_sem,h6,h7,h5]
       refine aX hH ⟨rfl,rfl⟩ (by simp only[go_sem]) (by simp only[List.length_map,List.length_cons,List.length_nil];omega) (fun j' hj'=>?_);simp only[go_sem];refine hK _ _ ⟨by simp only[go_sem,h6],by simp only[go_sem,h7],dP hi hji hj',j',by simp only[go_sem],(aN hi hj').symm,?_⟩;rw[iM (show(decide ((a.slow.length:Int)>16))=true from hb)];exact fD (l':=[⟨4,gZ m⟩]) rfl
     · simp only[go_sem]
       refine hK _ _ ⟨by simp only[go_sem,h6],by simp only[go_sem,h7],hi,j,by simp only[go_sem,h5],hji,?_⟩;rw[iL (show(decide ((a.slow.length:Int)>16))=false from hb),List.append_nil,hH]
     clear hH h6 h7 h5;rintro ρ H ⟨h6,h7,hi,j,h5,hji,hH⟩;generalize hes5:es4++opt (decide ((a.slow.length:Int)>16)) (⟨4,gZ m⟩:Fault)=es5 at hH;have hln5:es5.length≤es4.length+1:=by rw[←hes5,List.length_append];have:=cH (decide ((a.slow.length:Int)>16)) (⟨4,gZ m⟩:Fault);omega
     simp only[go_sem,h6,h7,h5,hi];refine⟨fun ρ H=>∃k:Nat,k≤a.slow.length∧ρ 6=str (gZ m)∧ρ 7=.op i 0 0∧ρ 13=int k∧H i=some (sF a)∧∃j,ρ 5=.os j∧j≠i∧H j=some (bF (es5++(List.range k).flatMap fun x=>opt (nX a.slow x) ⟨2,gZ m⟩)),fun ρ _=>a.slow.length-bE (ρ 13),
       ⟨0,Nat.zero_le _,by simp only[go_sem,h6],by simp only[go_sem,h7],by simp only[go_sem];rfl,hi,j,by simp only[go_sem,h5],hji,by simpa using hH⟩,?_⟩
     clear h6 h7 h5 hi hH hji;rintro ρ H ⟨k,hk,h6,h7,h13,hi,j,h5,hji,hH⟩;generalize hes:es5++(List.range k).flatMap (fun x=>opt (nX a.slow x) (⟨2,gZ m⟩:Fault))=es at hH;have hlen:es.length≤es5.length+k:=by
       have:=fE (f:=fun x=>opt (nX a.slow x) (⟨2,gZ m⟩:Fault)) (c:=1) (fun x=>cH _ _) (List.range k);rw[←hes,List.length_append];rw[List.length_range]at this;omega
     simp only[go_sem,h6,h7,h5,h13,hi];refine aB (fun hlt=>?_) (fun hge=>?_)
     · have hlt:=cJ hlt
       have hkk:k≤4611686018427387904:=by omega
       obtain⟨p,hp⟩:=aU hlt;obtain⟨r,hr⟩:=aU (show k-1<a.slow.length by omega);have b2:=inB hlt;simp only[go_sem,h6,h7,h5,h13,hi,b2,aH hp];refine aL fun x hx=>?_
       simp only[go_sem];refine aP (aA _ _ _) (by simp[dZ]) ?_;have hix:=aN hi hx;have hjx:=aN hH hx;simp only[go_sem];refine gA (by rfl) (by kernel_rfl) ?_;simp only[go_sem,h6,h7,h5,h13,aC _ _ _ _ hix,hi];refine⟨_,(U0 _).q rfl,?_⟩;simp only[go_sem,h6,h7,h5,h13,aC _ _ _ _ hix,hi];refine⟨_,fun _=>(U0 _).q rfl,?_⟩;simp only[go_sem,h6,h7,h5,h13,aC _ _ _ _ hix,hi,Tk hkk,aH hr];have hi2:aI (aI H x (some ⟨136,2,[[int 0,int 0]]⟩)) x (some ⟨136,2,[bK p]⟩) i=some (sF a):=by rw[aC _ _ _ _ hix,aC _ _ _ _ hix,hi]
       have hH2:aI (aI H x (some ⟨136,2,[[int 0,int 0]]⟩)) x (some ⟨136,2,[bK p]⟩) j=some (bF es):=by rw[aC _ _ _ _ hjx,aC _ _ _ _ hjx,hH]
       have hbs:nX a.slow k=(!inR p.t 0 4096|| !inR p.a 0 4096||decide ((k:Int)>0)&&decide (p.t≤r.t)):=by rw[nX,cY hp,cY hr]
       have hfl:es5++(List.range (k+1)).flatMap (fun x=>opt (nX a.slow x) (⟨2,gZ m⟩:Fault))=es++opt (nX a.slow k) ⟨2,gZ m⟩:=by rw[iC,←List.append_assoc,hes]
       refine⟨fun h=>by
         have:(k:Int)>0:=by simpa using h.2
         rw[nM hkk];omega,dW (fun ρ' H'=>ρ' 6=str (gZ m)∧ρ' 7=.op i 0 0∧ρ' 13=int k∧H' i=some (sF a)∧∃j,ρ' 5=.os j∧j≠i∧H' j=some (bF (es++opt (nX a.slow k) ⟨2,gZ m⟩))) ?_ fun K hK _ _=>aB (fun hb=>?_) (fun hb=>?_)⟩
       · clear h6 h7 h5 h13
         rintro ρ H ⟨h6,h7,h13,hi,j,h5,hji,hH⟩;simp only[go_sem,h6,h7,h5,h13,bA hkk];exact⟨⟨k+1,hlt,rfl,hi,j,rfl,hji,by rw[hfl];exact hH⟩,by simp only[aJ];omega⟩
       · simp only[go_sem,h6,h7,h5,h13]
         refine aX hH2 ⟨rfl,rfl⟩ (by simp only[go_sem]) (by simp only[List.length_map,List.length_cons,List.length_nil];omega) (fun j' hj'=>?_);simp only[go_sem];refine hK _ _ ⟨by simp only[go_sem,h6],by simp only[go_sem,h7],by simp only[go_sem,h13],dP hi2 hji hj',j',by simp only[go_sem],(aN hi2 hj').symm,?_⟩;rw[iM (hbs.trans hb)];exact fD (l':=[⟨2,gZ m⟩]) rfl
       · simp only[go_sem]
         refine hK _ _ ⟨by simp only[go_sem,h6],by simp only[go_sem,h7],by simp only[go_sem,h13],hi2,j,by simp only[go_sem,h5],hji,?_⟩;rw[iL (hbs.trans hb),List.append_nil,hH2]
     · have hge:=cM hk hge
       subst hge;simp only[go_sem,h5];refine⟨_,rfl,?_⟩;rw[hH,←hes,←hes5,←hes4,←htr,←hes3,←hes2,←hes1,←hes0,Cy,nF ha]
theorem DI(n:Network)(k:Nat)(ht:(mN n.arcs k).travel.length≤1048576)(hs:(mN n.arcs k).slow.length≤1048576):(Cy n k).length≤3145740:=by
 have h1:=cH (tU n.places.length (mN n.arcs k)) (⟨11,gZ k⟩:Fault);have h2:=cH (xA (mN n.arcs k)) (⟨2,gZ k⟩:Fault);have h3:=cH ((n.arcs.take k).any (qA (mN n.arcs k))) (⟨6,gZ k⟩:Fault);have h4:=Cj (mN n.arcs k).travel;have h5:=cH (decide (((mN n.arcs k).slow.length:Int)>16)) (⟨4,gZ k⟩:Fault);have h6:=fE (f:=fun i=>opt (nX (mN n.arcs k).slow i) (⟨2,gZ k⟩:Fault)) (c:=1) (fun x=>cH _ _) (List.range (mN n.arcs k).slow.length);rw[List.length_range]at h6;simp only[Cy,List.length_append,List.length_map,List.length_nil];omega
theorem BY{α β:Type}{f:α→List β}{c:Nat}:∀l:List α,(∀x∈l,(f x).length≤c)→(l.flatMap f).length≤c*l.length
 | [],_=>by simp
 | x::r,h=>by
   have h1:=h x (by simp);have h2:=BY r fun y hy=>h y (by simp[hy])
   simp only[List.flatMap_cons,List.length_append,List.length_cons,Nat.mul_add,Nat.mul_one];omega
def C6(n:Network):List Fault:=vF n.places++opt (decide ((n.arcs.length:Int)>1024)) ⟨4,⟨#[97,114,99,115]⟩⟩++(List.range n.arcs.length).flatMap (Cy n)
theorem B1(l:List ByteArray):(vF l).length≤l.length+1:=by
 have:=fE (Ov l) (List.range l.length);have h2:=cH (decide ((l.length:Int)>24)) (⟨4,⟨#[112,108,97,99,101,115]⟩⟩:Fault);rw[vF,List.length_append];rw[List.length_range]at this;omega
theorem aiH(n : Network)(hp : n.places.length ≤ 1048576)(hps : ∀ s ∈ n.places, s.size ≤ 1048576)(hl : n.arcs.length ≤ 1048576)(hs : ∀ a ∈ n.arcs, a.travel.length ≤ 1048576 ∧ a.slow.length ≤ 1048576):
   NC Tryz.prog 30 [.agg (aT n)] (bF (C6 n)) .os:=by
 have hal:∀k,(Cy n k).length≤3145740:=fun k=>by
   rcases Nat.lt_or_ge k n.arcs.length with h|h
   · obtain⟨a,ha⟩:=aU h
     have hm:=hs a (jQ ha);exact DI n k (by rw[nF ha];exact hm.1) (by rw[nF ha];exact hm.2)
   · have:mN n.arcs k=⟨0,0,0,0,[],[]⟩:=by simp[mN,List.getD,List.getElem?_eq_none h]
     exact DI n k (by rw[this];simp) (by rw[this];simp)
 have hpl:=B1 n.places;refine NC.body (c:=Tryz.f30.body.getD .skip) (fun t=>t == 3) mixed Tryz.func30 rfl (by kernel_rfl) ?_;unfold Tryz.f30;simp only[Option.getD_some];simp only[go_sem];refine NC.use (Az n hp hps) fun j hj=>?_
 simp only[go_sem];refine oV (fun ρ' H'=>ρ' 1=.rp (aT n) 0∧∃j',ρ' 3=.os j'∧H' j'=some (bF (vF n.places))) ⟨by simp only[go_sem],j,by simp only[go_sem],aA _ _ _⟩ ?_;clear hj;rintro ρ H ⟨h1,j,h3,hH⟩;generalize hes0:vF n.places=es0 at hH hpl;refine aW (fun ρ' H'=>ρ' 1=.rp (aT n) 0∧∃j',ρ' 3=.os j'∧H' j'=some (bF (es0++opt (decide ((n.arcs.length:Int)>1024)) ⟨4,⟨#[97,114,99,115]⟩⟩))) ?_ fun K hK=>aB (fun hb=>?_) (fun hb=>?_)
 rotate_left
 · simp only[go_sem,h1,h3]
   refine aX hH ⟨rfl,rfl⟩ (by simp only[go_sem]) (by simp only[List.length_map,List.length_cons,List.length_nil];omega) (fun j' hj'=>?_);simp only[go_sem];refine hK _ _ ⟨by simp only[go_sem,h1],j',by simp only[go_sem],?_⟩;rw[iM (show(decide ((n.arcs.length:Int)>1024))=true from hb)];exact fD (l':=[⟨4,⟨#[97,114,99,115]⟩⟩]) rfl
 · simp only[go_sem]
   refine hK _ _ ⟨by simp only[go_sem,h1],j,by simp only[go_sem,h3],?_⟩;rw[iL (show(decide ((n.arcs.length:Int)>1024))=false from hb),List.append_nil,hH]
 clear hH h1 h3;rintro ρ H ⟨h1,j,h3,hH⟩;generalize hes1:es0++opt (decide ((n.arcs.length:Int)>1024)) (⟨4,⟨#[97,114,99,115]⟩⟩:Fault)=es1 at hH;have hln1:es1.length≤es0.length+1:=by rw[←hes1,List.length_append];have:=cH (decide ((n.arcs.length:Int)>1024)) (⟨4,⟨#[97,114,99,115]⟩⟩:Fault);omega
 simp only[go_sem,h1,h3];refine⟨fun ρ H=>∃k:Nat,k≤n.arcs.length∧ρ 1=.rp (aT n) 0∧ρ 4=int k∧∃j,ρ 3=.os j∧H j=some (bF (es1++(List.range k).flatMap (Cy n))),fun ρ _=>n.arcs.length-bE (ρ 4),⟨0,Nat.zero_le _,by simp only[go_sem,h1],by simp only[go_sem];rfl,j,by simp only[go_sem,h3],by simpa using hH⟩,?_⟩;clear hH h1 h3;rintro ρ H ⟨k,hk,h1,h4,j,h3,hH⟩;generalize hes:es1++(List.range k).flatMap (Cy n)=es at hH;have hlen:es.length≤es1.length+3145740*k:=by
   have:=fE hal (List.range k);rw[←hes,List.length_append];rw[List.length_range]at this;omega
 simp only[go_sem,h1,h3,h4];refine aB (fun hlt=>?_) (fun hge=>?_)
 · have hlt:=cJ hlt
   simp only[go_sem,h1,h3,h4];refine NC.use (akY n k hlt hp hl hs) fun i hi=>?_
   simp only[go_sem];have:=hal k;refine AB (kA hH hi) (aA _ _ _) ⟨rfl,rfl⟩ (oK _) (by simp only[List.length_map];omega) (fun j' hj'=>?_);simp only[go_sem,h1,h3,h4,bA (show k≤4611686018427387904 by omega)];refine⟨⟨k+1,hlt,rfl,j',rfl,?_⟩,by simp only[aJ];omega⟩;rw[iC,←List.append_assoc,hes];exact fD rfl
 · have hge:=cM hk hge
   subst hge;simp only[go_sem,h3];exact⟨_,rfl,by rw[hH,←hes,←hes1,←hes0];rfl⟩
def small(l:List Fault):Prop:=∀f∈l,f.at_.size≤4194304
theorem Q0:small []:=by simp[small]
theorem iO{a b:List Fault}(ha:small a)(hb:small b):small (a++b):=fun f hf=>(List.mem_append.1 hf).elim (ha f) (hb f)
theorem hJ{b:Bool}{f:Fault}(h:f.at_.size≤4194304):small (opt b f):=by
 cases b
 · simp[small,opt]
 · intro g hg;simp[opt]at hg;subst hg;exact h
theorem oG{α:Type}{F:α→List Fault}{l:List α}(h:∀x∈l,small (F x)):small (l.flatMap F):=fun f hf=>by
 obtain⟨x,hx,hf⟩:=List.mem_flatMap.1 hf;exact h x hx f hf
theorem Bn{α:Type}{F:α→Fault}{l:List α}(h:∀x∈l,(F x).at_.size≤4194304):small (l.map F):=fun f hf=>by
 obtain⟨x,hx,rfl⟩:=List.mem_map.1 hf;exact h x hx
theorem tM{i n:Nat}(h:i∈List.range n):i<n:=List.mem_range.1 h
theorem RJ(i:Nat):(gZ i).size≤i+5:=by
 have:=nE i;unfold gZ;rw[ByteArray.size_append];have:(⟨#[97,114,99,32]⟩:ByteArray).size=4:=rfl;omega
theorem NP(w:ByteArray)(i:Nat):(wH w i).size≤w.size+i+2:=by
 have:=nE i;unfold wH;rw[ByteArray.size_append,ByteArray.size_append];have:(⟨#[32]⟩:ByteArray).size=1:=rfl;omega
theorem HR(l:List ByteArray)(h:l.length≤1048576):small (vF l):=iO (hJ (by decide)) (oG fun i hi=>by
 have:=tM hi;have:=K0 i;unfold gB;split
 · exact hJ (b:=true) (by show(qV i).size≤_;omega)
 · exact hJ (by show(qV i).size≤_;omega))
theorem QK(n:Network)(hp:n.places.length≤1048576)(hl:n.arcs.length≤1048576):small (C6 n):=by
 refine iO (iO (HR _ hp) (hJ (by decide))) (oG fun i hi=>?_);have:=tM hi;have h:(gZ i).size≤4194304:=by have:=RJ i;omega
 exact iO (iO (iO (iO (iO (iO Q0 (hJ h)) (hJ h)) (hJ h)) (Bn fun _ _=>h)) (hJ h)) (oG fun _ _=>hJ h)
theorem KS(n:Network)(l:List VType)(hl:l.length≤1048576):small (qS n l):=
 iO (hJ (by decide)) (oG fun i hi=>Bn fun _ _=>by have:=tM hi;have:=nE i;show(jO i).size≤_;omega)
theorem IM(n:Network)(d T:Int)(l:List Order)(hl:l.length≤1048576):small (pD n d T l):=
 iO (hJ (by decide)) (oG fun i hi=>Bn fun _ _=>by have:=tM hi;have:=nE i;show(jO i).size≤_;omega)
theorem B0(N:Int)(l:List Pair)(w:ByteArray)(b:Bool)(hl:l.length≤1048576)(hw:w.size≤100):small (sI N l w b):=iO (hJ (by show w.size≤_;omega)) (oG fun i hi=>by
 have:=tM hi;have:=NP w i;unfold gI;split
 · exact hJ (b:=true) (by show(wH w i).size≤_;omega)
 · exact hJ (by show(wH w i).size≤_;omega))
theorem NI(n:Network)(l:List VType):(qS n l).length≤9*l.length+1:=by
 have:=fE (f:=iE n l) (c:=9) (fun x=>by unfold iE;rw[List.length_map];exact uN _ _ _ _) (List.range l.length);have h2:=cH (!inR l.length 1 6) (⟨4,ByteArray.empty⟩:Fault);rw[qS,List.length_append];rw[List.length_range]at this;omega
theorem LL(n:Network)(d T:Int)(l:List Order):(pD n d T l).length≤9*l.length+1:=by
 have:=fE (f:=gD n d T l) (c:=9) (fun x=>by unfold gD;rw[List.length_map];exact sE _ _ _ _ _ _) (List.range l.length);have h2:=cH (decide ((l.length:Int)>10)) (⟨4,ByteArray.empty⟩:Fault);rw[pD,List.length_append];rw[List.length_range]at this;omega
structure InB(x:Instance):Prop where
 places:x.net.places.length≤1048576
 place:∀s∈x.net.places,s.size≤1048576
 arcs:x.net.arcs.length≤1048576
 arc:∀a∈x.net.arcs,a.travel.length≤1048576∧a.slow.length≤1048576
 types:x.types.length≤1048576
 type:∀t∈x.types,t.name.size≤1048576∧t.cap.length≤1048576
 orders:x.orders.length≤1048576
 order:∀t∈x.orders,t.name.size≤1048576∧t.load.length≤1048576
 apart:x.apart.length≤1048576
 before:x.before.length≤1048576
def Ba(x:Instance):List Fault:=sI x.orders.length x.apart ⟨#[97,112,97,114,116]⟩ true++sI x.orders.length x.before ⟨#[98,101,102,111,114,101]⟩ false
def mG(x:Instance):List Fault:=(C6 x.net).map (kX ⟨#[110,101,116]⟩)++(qS x.net x.types).map (kX ⟨#[116,121,112,101,115]⟩) ++
 (pD x.net (mJ x.types) x.types.length x.orders).map (kX ⟨#[111,114,100,101,114,115]⟩)++(Ba x).map (kX ⟨#[114,117,108,101,115]⟩)
theorem Vh(x:Instance)(h:InB x):(C6 x.net).length≤3300000000000:=by
 have h1:=B1 x.net.places;have h2:=cH (decide ((x.net.arcs.length:Int)>1024)) (⟨4,⟨#[97,114,99,115]⟩⟩:Fault);have h3:=BY (f:=Cy x.net) (c:=3145740) (List.range x.net.arcs.length) fun k hk=>by
   obtain⟨a,ha⟩:=aU (tM hk);have hm:=h.arc a (jQ ha);exact DI x.net k (by rw[nF ha];exact hm.1) (by rw[nF ha];exact hm.2)
 have h4:=h.places;have h5:=h.arcs;rw[List.length_range]at h3;simp only[C6,List.length_append];omega
theorem XL(x:Instance)(h:InB x):NC Tryz.prog 9 [.agg (aS x)] (bF (mG x)) .os:=by
 have c1:PC Tryz.prog 30 [.agg (aT x.net)] (.sl ((C6 x.net).map gH)):=NC.pc (aiH x.net h.places h.place h.arcs h.arc);have c2:PC Tryz.prog 31 [.agg (aT x.net),.sl (x.types.map bC)] (.sl ((qS x.net x.types).map gH)):=NC.pc (Wq x.net x.types h.types h.type h.places);have c3:PC Tryz.prog 32 [.agg (aT x.net),int (mJ x.types),int x.types.length,.sl (x.orders.map aV)] (.sl ((pD x.net (mJ x.types) x.types.length x.orders).map gH)):=NC.pc (Vo x.net _ _ x.orders h.orders h.order h.places);have c4:PC Tryz.prog 34 [int x.orders.length,.sl (x.apart.map gL),.sl (x.before.map gL)] (.sl ((Ba x).map gH)):=NC.pc (IA x.orders.length x.apart x.before h.apart h.before);have l1:=Vh x h;have l2:=NI x.net x.types;have l3:=LL x.net (mJ x.types) x.types.length x.orders;have l4:(Ba x).length≤2097154:=by
   have a1:=tZ x.orders.length x.apart ⟨#[97,112,97,114,116]⟩ true;have a2:=tZ x.orders.length x.before ⟨#[98,101,102,111,114,101]⟩ false;have:=h.apart;have:=h.before;rw[Ba,List.length_append];omega
 have s1:=QK x.net h.places h.arcs;have s2:=KS x.net x.types h.types;have s3:=IM x.net (mJ x.types) x.types.length x.orders h.orders;have s4:small (Ba x):=iO (B0 _ _ _ _ h.apart (by decide)) (B0 _ _ _ _ h.before (by decide));have ht:=h.types;have ho:=h.orders;refine NC.body (c:=Tryz.f9.body.getD .skip) (fun t=>t == 27) mixed Tryz.func9 rfl (by kernel_rfl) ?_;unfold Tryz.f9;simp only[Option.getD_some];simp only[go_sem];refine PC.use c1 ?_;simp only[go_sem];refine NC.use (CV ⟨#[110,101,116]⟩ _ (by decide) (by omega) fun f hf=>Nat.le_trans (s1 f hf) (by decide)) fun j hj=>?_
 simp only[go_sem];refine PC.use c2 ?_;simp only[go_sem];refine NC.use (CV ⟨#[116,121,112,101,115]⟩ _ (by decide) (by omega) fun f hf=>Nat.le_trans (s2 f hf) (by decide)) fun i hi=>?_
 simp only[go_sem];refine AB (kA (aA _ _ _) hi) (aA _ _ _) ⟨rfl,rfl⟩ (oK _) (by simp only[List.length_map];omega) (fun j' hj'=>?_);simp only[go_sem];refine IL (by kernel_rfl) ?_;simp only[go_sem];refine⟨_,(VN x.types).q rfl,?_⟩;simp only[go_sem];have hH:=fD (e:=128) (sz:=2) (enc:=gH) (H:=aI (aI (aI bX j (some (bF ((C6 x.net).map (kX ⟨#[110,101,116]⟩))))) i (some (bF ((qS x.net x.types).map (kX ⟨#[116,121,112,101,115]⟩))))) j none) (k:=j') (l:=(C6 x.net).map (kX ⟨#[110,101,116]⟩)) (l':=(qS x.net x.types).map (kX ⟨#[116,121,112,101,115]⟩)) rfl;generalize aI (aI (aI (aI bX j _) i _) j none) j' _=H at hH ⊢;generalize hes:(C6 x.net).map (kX ⟨#[110,101,116]⟩)++(qS x.net x.types).map (kX ⟨#[116,121,112,101,115]⟩)=es at hH;have hel:es.length≤3300000000000+9*x.types.length+1:=by rw[←hes,List.length_append,List.length_map,List.length_map];omega
 clear hi hj hj';refine PC.use c3 ?_;simp only[go_sem];refine NC.use (CV ⟨#[111,114,100,101,114,115]⟩ _ (by decide) (by omega) fun f hf=>Nat.le_trans (s3 f hf) (by decide)) fun i hi=>?_
 simp only[go_sem];refine AB (kA hH hi) (aA _ _ _) ⟨rfl,rfl⟩ (oK _) (by simp only[List.length_map];omega) (fun k hk=>?_);simp only[go_sem];have hH2:=fD (e:=128) (sz:=2) (enc:=gH) (H:=aI (aI H i (some (bF ((pD x.net (mJ x.types) x.types.length x.orders).map (kX ⟨#[111,114,100,101,114,115]⟩))))) j' none) (k:=k) (l:=es) (l':=(pD x.net (mJ x.types) x.types.length x.orders).map (kX ⟨#[111,114,100,101,114,115]⟩)) rfl;generalize aI (aI (aI H i _) j' none) k _=H2 at hH2 ⊢;clear hi hk;refine PC.use c4 ?_;simp only[go_sem];refine NC.use (CV ⟨#[114,117,108,101,115]⟩ _ (by decide) (by omega) fun f hf=>Nat.le_trans (s4 f hf) (by decide)) fun q hq=>?_
 simp only[go_sem];refine AB (kA hH2 hq) (aA _ _ _) ⟨rfl,rfl⟩ (oK _) (by simp only[List.length_map,List.length_append];omega) (fun m hm=>?_);simp only[go_sem];refine⟨m,rfl,?_⟩;rw[mG,hes];exact fD rfl
end Go.Proofs.YtdlijlecpopadaaGreatDoor
