/- Texts joined by a program: RefI. -/
import Derived.Test.YtdlijlecpopadaaGreatDoorZy20
import Derived.Test.YtdlijlecpopadaaGreatDoorZy21

set_option linter.unusedSimpArgs false
set_option linter.unusedVariables false
namespace Go.Proofs.YtdlijlecpopadaaGreatDoor
open Go.Aw Go.Aw.D Go.Proofs Ty
set_option maxRecDepth 100000
def pAt(l:List Pair)(i:Nat):Pair:=l.getD i ⟨0,0⟩
theorem Iu{l:List Pair}{k:Nat}{p:Pair}(h:l[k]?=some p):pAt l k=p:=by simp[pAt,List.getD,h]
def vH(w:ByteArray)(k:Nat):ByteArray:=w++⟨#[32]⟩++jN k
def zJ(N:Int)(p:Pair):Bool:=decide (p.a<0)||decide (p.a≥N)||decide (p.b<0)||decide (p.b≥N)||p.a == p.b
def wG(b:Bool)(p q:Pair):Bool:=(q.a == p.a&&q.b == p.b)||(b&&q.a == p.b&&q.b == p.a)
def gC(N:Int)(l:List Pair)(w:ByteArray)(b:Bool)(k:Nat):List Fault:=match zJ N (pAt l k)with
 | true=>[⟨2,vH w k⟩]
 | false=>opt ((l.take k).any (wG b (pAt l k))) ⟨6,vH w k⟩
theorem vZ(N:Int)(l:List Pair)(w:ByteArray)(b:Bool)(k:Nat):(gC N l w b k).length≤1:=by
 unfold gC;split
 · simp
 · exact cD _ _
def rT(N:Int)(l:List Pair)(w:ByteArray)(b:Bool):List Fault:=opt (decide ((l.length:Int)>16)) ⟨4,w⟩++(List.range l.length).flatMap (gC N l w b)
theorem Km(N : Int)(l : List Pair)(w : ByteArray)(b : Bool)(hl : l.length ≤ 1048576)(hw : w.size ≤ 1048576):
   NC Tryz.prog 74 [int N,.sl (l.map gF),str w,boo b] (bF (rT N l w b)) .os:=by
 refine NC.body (c:=Tryz.f74.body.getD .skip) (fun t=>t == 9) mixed Tryz.func74 rfl (by kernel_rfl) ?_;unfold Tryz.f74;simp only[Option.getD_some];simp only[go_sem];refine aL fun j hj=>?_
 simp only[go_sem];refine oE (fun ρ' H'=>ρ' 0=int N∧ρ' 1=.sl (l.map gF)∧ρ' 2=str w∧ρ' 3=boo b∧∃j',ρ' 9=.os j'∧H' j'=some (bF [])) ⟨by simp only[go_sem],by simp only[go_sem],by simp only[go_sem],by simp only[go_sem],_,by simp only[go_sem],aA _ _ _⟩ ?_;rintro ρ H ⟨h0,h1,h2,h3,j,h9,hH⟩;generalize hes0:([]:List Fault)=es0 at hH;have hln0:es0.length≤0:=by rw[←hes0];exact Nat.le_refl _
 refine aU (fun ρ' H'=>ρ' 0=int N∧ρ' 1=.sl (l.map gF)∧ρ' 2=str w∧ρ' 3=boo b∧∃j',ρ' 9=.os j'∧H' j'=some (bF (es0++opt (decide ((l.length:Int)>16)) ⟨4,w⟩))) ?_ fun K hK=>aB (fun hb=>?_) (fun hb=>?_)
 rotate_left
 · simp only[go_sem,h0,h1,h2,h3,h9]
   refine aX hH ⟨rfl,rfl⟩ (by simp only[go_sem]) (by simp only[List.length_map,List.length_cons,List.length_nil];omega) (fun j' hj'=>?_);simp only[go_sem];refine hK _ _ ⟨by simp only[go_sem,h0],by simp only[go_sem,h1],by simp only[go_sem,h2],by simp only[go_sem,h3],j',by simp only[go_sem],?_⟩;rw[iH (show(decide ((l.length:Int)>16))=true from hb)];exact eS (l':=[⟨4,w⟩]) rfl
 · simp only[go_sem]
   refine hK _ _ ⟨by simp only[go_sem,h0],by simp only[go_sem,h1],by simp only[go_sem,h2],by simp only[go_sem,h3],j,by simp only[go_sem,h9],?_⟩;rw[iG (show(decide ((l.length:Int)>16))=false from hb),List.append_nil,hH]
 clear hH h0 h1 h2 h3 h9;rintro ρ H ⟨h0,h1,h2,h3,j,h9,hH⟩;generalize hes1:es0++opt (decide ((l.length:Int)>16)) (⟨4,w⟩:Fault)=es1 at hH;have hln1:es1.length≤es0.length+1:=by rw[←hes1,List.length_append];have:=cD (decide ((l.length:Int)>16)) (⟨4,w⟩:Fault);omega
 simp only[go_sem,h0,h1,h2,h3,h9];refine⟨fun ρ H=>∃k:Nat,k≤l.length∧ρ 0=int N∧ρ 1=.sl (l.map gF)∧ρ 2=str w∧ρ 3=boo b∧ρ 10=int k∧∃j,ρ 9=.os j∧H j=some (bF (es1++(List.range k).flatMap (gC N l w b))),fun ρ _=>l.length-bE (ρ 10),
   ⟨0,Nat.zero_le _,by simp only[go_sem,h0],by simp only[go_sem,h1],by simp only[go_sem,h2],by simp only[go_sem,h3],by simp only[go_sem];rfl,j,by simp only[go_sem,h9],by simpa using hH⟩,?_⟩
 clear hH h0 h1 h2 h3 h9 hj;rintro ρ H ⟨k,hk,h0,h1,h2,h3,h10,j,h9,hH⟩;generalize hes:es1++(List.range k).flatMap (gC N l w b)=es at hH;have hlen:es.length≤k+1:=by
   have:=eT (vZ N l w b) (List.range k);rw[←hes,List.length_append];rw[List.length_range]at this;omega
 simp only[go_sem,h0,h1,h2,h3,h9,h10];refine aB (fun hlt=>?_) (fun hge=>?_)
 · have hlt:=cF hlt
   have hkk:k≤4611686018427387904:=by omega
   obtain⟨p,hp⟩:=aW hlt;have b1:=inB hlt;have hds:=mT k;have h32:(#[32]:Array UInt8).size=1:=rfl;have hfl:es1++(List.range (k+1)).flatMap (gC N l w b)=es++gC N l w b k:=by rw[gY,←List.append_assoc,hes]
   simp only[go_sem,h0,h1,h2,h3,h9,h10,b1,aF hp];refine⟨by omega,by omega,by rw[uG];omega,?_⟩;refine PC.use (Xh _ (by omega)) ?_;simp only[go_sem,h0,h1,h2,h3,h9,h10];refine⟨by rw[uG];omega,?_⟩;refine aB (fun hb=>?_) (fun hb=>?_)
   · simp only[go_sem,h0,h1,h2,h3,h9,h10]
     refine aX hH ⟨rfl,rfl⟩ (by simp only[go_sem]) (by simp only[List.length_map,List.length_cons,List.length_nil];omega) (fun j' hj'=>?_);simp only[go_sem,h0,h1,h2,h3,h10,bA hkk];refine⟨⟨k+1,hlt,rfl,j',rfl,?_⟩,by simp only[aH];omega⟩;have hn:zJ N (pAt l k)=true:=by rw[Iu hp];exact hb
     rw[hfl,gC,hn];exact eS (l':=[⟨2,vH w k⟩]) rfl
   · simp only[go_sem,h0,h1,h2,h3,h9,h10]
     have hn:zJ N (pAt l k)=false:=by rw[Iu hp];exact hb
     refine⟨fun ρ H'=>∃m:Nat,m≤k∧ρ 0=int N∧ρ 1=.sl (l.map gF)∧ρ 2=str w∧ρ 3=boo b∧ρ 9=.os j∧ρ 10=int k∧ρ 11=int p.a∧ρ 12=int p.b∧ρ 13=str (vH w k)∧ρ 14=boo ((l.take m).any (wG b p))∧ρ 15=int m∧H'=H,fun ρ _=>k-bE (ρ 15),
       ⟨0,Nat.zero_le _,by simp only[go_sem,h0],by simp only[go_sem,h1],by simp only[go_sem,h2],by simp only[go_sem,h3],by simp only[go_sem,h9],by simp only[go_sem,h10],by simp only[go_sem],by simp only[go_sem],by simp only[go_sem];rfl,by simp only[go_sem];rfl,by simp only[go_sem];rfl,rfl⟩,?_⟩
     clear h0 h1 h2 h3 h9 h10;rintro ρ H' ⟨m,hm,h0,h1,h2,h3,h9,h10,h11,h12,h13,h14,h15,rfl⟩;simp only[go_sem,h0,h1,h2,h3,h9,h10,h11,h12,h13,h14,h15];refine aB (fun hlt2=>?_) (fun hge2=>?_)
     · have hlt2:=cF hlt2
       obtain⟨q,hq⟩:=aW (show m<l.length by omega);have b2:=inB (show m<l.length by omega);simp only[go_sem,h0,h1,h2,h3,h9,h10,h11,h12,h13,h14,h15,b2,aF hq,bA (show m≤4611686018427387904 by omega)];refine⟨fun _=>by omega,fun _=>by omega,fun _=>by omega,fun _=>by omega,⟨m+1,hlt2,?_,rfl⟩,by simp only[aH];omega⟩;rw[CG hq];simp only[wG,Bool.or_assoc]
     · have hge2:=cH hm hge2
       subst hge2;simp only[go_sem,h14];have hsb:(l.take m).any (wG b (pAt l m))=(l.take m).any (wG b p):=by rw[Iu hp]
       refine dT (fun ρ' H'=>ρ' 0=int N∧ρ' 1=.sl (l.map gF)∧ρ' 2=str w∧ρ' 3=boo b∧ρ' 10=int m∧∃j,ρ' 9=.os j∧H' j=some (bF (es1++(List.range (m+1)).flatMap (gC N l w b)))) ?_ fun K hK _ _=>aB (fun hb=>?_) (fun hb=>?_)
       · clear hH h0 h1 h2 h3 h9 h10
         rintro ρ H ⟨h0,h1,h2,h3,h10,j,h9,hH⟩;simp only[go_sem,h0,h1,h2,h3,h9,h10,bA hkk];exact⟨⟨m+1,hlt,rfl,j,rfl,hH⟩,by simp only[aH];omega⟩
       · simp only[go_sem,h0,h1,h2,h3,h9,h10,h13]
         refine aX hH ⟨rfl,rfl⟩ (by simp only[go_sem]) (by simp only[List.length_map,List.length_cons,List.length_nil];omega) (fun j' hj'=>?_);simp only[go_sem];refine hK _ _ ⟨by simp only[go_sem,h0],by simp only[go_sem,h1],by simp only[go_sem,h2],by simp only[go_sem,h3],by simp only[go_sem,h10],j',by simp only[go_sem],?_⟩;rw[hfl,gC,hn];show _=some (bF (es++opt _ ⟨6,vH w m⟩));rw[iH (hsb.trans hb)];exact eS (l':=[⟨6,vH w m⟩]) rfl
       · simp only[go_sem]
         refine hK _ _ ⟨by simp only[go_sem,h0],by simp only[go_sem,h1],by simp only[go_sem,h2],by simp only[go_sem,h3],by simp only[go_sem,h10],j,by simp only[go_sem,h9],?_⟩;rw[hfl,gC,hn];show _=some (bF (es++opt _ ⟨6,vH w m⟩));rw[iG (hsb.trans hb),List.append_nil,hH]
 · have hge:=cH hk hge
   subst hge;simp only[go_sem,h9];exact⟨_,rfl,by rw[hH,←hes,←hes1,←hes0];rfl⟩
theorem oF:∀l:List Fault,dY 2 (l.map gB)
 | []=>trivial
 | f::r=>⟨rfl,oF r⟩
theorem uP(N:Int)(l:List Pair)(w:ByteArray)(b:Bool):(rT N l w b).length≤l.length+1:=by
 have:=eT (vZ N l w b) (List.range l.length);have h2:=cD (decide ((l.length:Int)>16)) (⟨4,w⟩:Fault);rw[rT,List.length_append];rw[List.length_range]at this;omega
theorem GM(N : Int)(ap be : List Pair)(hl : ap.length ≤ 1048576)(hl2 : be.length ≤ 1048576):
   NC Tryz.prog 34 [int N,.sl (ap.map gF),.sl (be.map gF)] (bF (rT N ap ⟨#[97,112,97,114,116]⟩ true++rT N be ⟨#[98,101,102,111,114,101]⟩ false)) .os:=by
 refine NC.body (c:=Tryz.f34.body.getD .skip) (fun t=>t == 7) mixed Tryz.func34 rfl (by kernel_rfl) ?_;unfold Tryz.f34;simp only[Option.getD_some];simp only[go_sem];refine NC.use (Km N ap ⟨#[97,112,97,114,116]⟩ true hl (by decide)) fun j hj=>?_
 simp only[go_sem];refine NC.use (Km N be ⟨#[98,101,102,111,114,101]⟩ false hl2 (by decide)) fun i hi=>?_
 simp only[go_sem];have l1:=uP N ap ⟨#[97,112,97,114,116]⟩ true;have l2:=uP N be ⟨#[98,101,102,111,114,101]⟩ false;refine zM (jV (aA _ _ _) hi) (aA _ _ _) ⟨rfl,rfl⟩ (oF _) (by simp only[List.length_map];omega) (fun j' hj'=>?_);simp only[go_sem];exact⟨_,rfl,eS rfl⟩
theorem NC.pc{f:FuncId}{args:List AV}{row:Row}(h:NC Tryz.prog f args row .os):PC Tryz.prog f args (.sl row.es):=
 RC.conv (RC.mono h fun r H' ⟨k,e,hk⟩=>by subst e;exact .row k row row.es hk (ConvE.refl _))
def lZ(l:List Arc)(i:Nat):Arc:=l.getD i ⟨0,0,0,0,[],[]⟩
theorem mR{l:List Arc}{k:Nat}{p:Arc}(h:l[k]?=some p):lZ l k=p:=by simp[lZ,List.getD,h]
def gS(k:Nat):ByteArray:=⟨#[97,114,99,32]⟩++jN k
def tE(N:Int)(a:Arc):Bool:=decide (a.src<0)||decide (a.src≥N)||decide (a.dst<0)||decide (a.dst≥N)
def vK(a:Arc):Bool:=decide (a.profile<0)||decide (a.profile>7)||decide (a.miles<0)||decide (a.miles>10000)||a.src == a.dst
def pP(a b:Arc):Bool:=a.src == b.src&&a.dst == b.dst&&a.profile == b.profile
def nE(l:List Point)(i:Nat):Bool:= !inR (dH l i).t 0 4096|| !inR (dH l i).a 0 4096||decide ((i:Int)>0)&&decide ((dH l i).t≤(dH l (i-1)).t)
def Cd(n:Network)(k:Nat):List Fault:=
 []++opt (tE n.places.length (lZ n.arcs k)) ⟨11,gS k⟩++opt (vK (lZ n.arcs k)) ⟨2,gS k⟩++opt ((n.arcs.take k).any (pP (lZ n.arcs k))) ⟨6,gS k⟩
   ++ (iA (lZ n.arcs k).travel).map (fun f=>⟨f.err,gS k⟩)++opt (decide (((lZ n.arcs k).slow.length:Int)>16)) ⟨4,gS k⟩
   ++ (List.range (lZ n.arcs k).slow.length).flatMap fun i=>opt (nE (lZ n.arcs k).slow i) ⟨2,gS k⟩
theorem Fv(l:List Point)(hl:l.length≤1048576):PC Tryz.prog 131 [.sl (l.map bJ)] (.sl ((iA l).map gB)):=NC.pc (Tn l hl)
theorem BE(l:List Point):(iA l).length≤2*l.length+1:=by
 have:=eT (UK l) (List.range l.length);have h2:=cD (yQ l.length 1 16) (⟨4,ByteArray.empty⟩:Fault);rw[iA,List.length_append];rw[List.length_range]at this;omega
theorem aeV(n : Network)(k : Nat)(hk : k < n.arcs.length)(hp : n.places.length ≤ 1048576)(hl : n.arcs.length ≤ 1048576)(hs : ∀ a ∈ n.arcs, a.travel.length ≤ 1048576 ∧ a.slow.length ≤ 1048576):
   NC Tryz.prog 69 [.agg (aT n),int k] (bF (Cd n k)) .os:=by
 refine NC.body (c:=Tryz.f69.body.getD .skip) (fun t=>t == 5) mixed Tryz.func69 rfl (by kernel_rfl) ?_;unfold Tryz.f69;simp only[Option.getD_some];simp only[go_sem];obtain⟨a,ha⟩:=aW hk;have b1:=inB hk;have hst:=hs a (jK ha);have hds:=mT k;refine aL fun j hj=>?_
 simp only[go_sem];refine PC.use (pU _ (by omega)) ?_;simp only[go_sem,b1,aF ha];have h4:(#[97,114,99,32]:Array UInt8).size=4:=rfl;refine⟨by rw[uG];omega,aL fun i hi=>?_⟩;simp only[go_sem];refine aP (aA _ _ _) (by simp[dF]) ?_;simp only[go_sem];have hji:j≠i:=aN (aA _ _ _) hi;have he1:gS k=⟨#[97,114,99,32]⟩++jN k:=rfl;refine oE (fun ρ' H'=>ρ' 1=int k∧ρ' 2=.rp (aT n) 0∧ρ' 6=str (gS k)∧ρ' 7=.op i 0 0∧H' i=some (sD a)∧∃j',ρ' 5=.os j'∧j'≠i∧H' j'=some (bF []))
   ⟨by simp only[go_sem],by simp only[go_sem],by simp only[go_sem,he1],by simp only[go_sem],aA _ _ _,j,by simp only[go_sem],hji,by rw[aC _ _ _ _ hji,aC _ _ _ _ hji,aA];rfl⟩ ?_
 clear hi hj hji;rintro ρ H ⟨h1,h2,h6,h7,hi,j,h5,hji,hH⟩;generalize hes0:([]:List Fault)=es0 at hH;have hln0:es0.length≤0:=by rw[←hes0];exact Nat.le_refl _
 refine aU (fun ρ' H'=>ρ' 1=int k∧ρ' 2=.rp (aT n) 0∧ρ' 6=str (gS k)∧ρ' 7=.op i 0 0∧H' i=some (sD a)∧∃j',ρ' 5=.os j'∧j'≠i∧H' j'=some (bF (es0++opt (tE n.places.length a) ⟨11,gS k⟩))) ?_ fun K hK=>aB (fun hb=>?_) (fun hb=>?_)
 rotate_left
 · simp only[go_sem,h1,h2,h6,h7,h5]
   refine aX hH ⟨rfl,rfl⟩ (by simp only[go_sem]) (by simp only[List.length_map,List.length_cons,List.length_nil];omega) (fun j' hj'=>?_);simp only[go_sem];refine hK _ _ ⟨by simp only[go_sem,h1],by simp only[go_sem,h2],by simp only[go_sem,h6],by simp only[go_sem,h7],dN hi hji hj',j',by simp only[go_sem],(aN hi hj').symm,?_⟩;rw[iH (show(tE n.places.length a)=true from hb)];exact eS (l':=[⟨11,gS k⟩]) rfl
 · simp only[go_sem]
   refine hK _ _ ⟨by simp only[go_sem,h1],by simp only[go_sem,h2],by simp only[go_sem,h6],by simp only[go_sem,h7],hi,j,by simp only[go_sem,h5],hji,?_⟩;rw[iG (show(tE n.places.length a)=false from hb),List.append_nil,hH]
 clear hH h1 h2 h6 h7 h5;rintro ρ H ⟨h1,h2,h6,h7,hi,j,h5,hji,hH⟩;generalize hes1:es0++opt (tE n.places.length a) (⟨11,gS k⟩:Fault)=es1 at hH;have hln1:es1.length≤es0.length+1:=by rw[←hes1,List.length_append];have:=cD (tE n.places.length a) (⟨11,gS k⟩:Fault);omega
 simp only[go_sem,h1,h2,h6,h7,h5,hi];refine aU (fun ρ' H'=>ρ' 1=int k∧ρ' 2=.rp (aT n) 0∧ρ' 6=str (gS k)∧ρ' 7=.op i 0 0∧H' i=some (sD a)∧∃j',ρ' 5=.os j'∧j'≠i∧H' j'=some (bF (es1++opt (vK a) ⟨2,gS k⟩))) ?_ fun K hK=>aB (fun hb=>?_) (fun hb=>?_)
 rotate_left
 · simp only[go_sem,h1,h2,h6,h7,h5]
   refine aX hH ⟨rfl,rfl⟩ (by simp only[go_sem]) (by simp only[List.length_map,List.length_cons,List.length_nil];omega) (fun j' hj'=>?_);simp only[go_sem];refine hK _ _ ⟨by simp only[go_sem,h1],by simp only[go_sem,h2],by simp only[go_sem,h6],by simp only[go_sem,h7],dN hi hji hj',j',by simp only[go_sem],(aN hi hj').symm,?_⟩;rw[iH (show(vK a)=true from hb)];exact eS (l':=[⟨2,gS k⟩]) rfl
 · simp only[go_sem]
   refine hK _ _ ⟨by simp only[go_sem,h1],by simp only[go_sem,h2],by simp only[go_sem,h6],by simp only[go_sem,h7],hi,j,by simp only[go_sem,h5],hji,?_⟩;rw[iG (show(vK a)=false from hb),List.append_nil,hH]
 clear hH h1 h2 h6 h7 h5;rintro ρ H ⟨h1,h2,h6,h7,hi,j,h5,hji,hH⟩;generalize hes2:es1++opt (vK a) (⟨2,gS k⟩:Fault)=es2 at hH;have hln2:es2.length≤es1.length+1:=by rw[←hes2,List.length_append];have:=cD (vK a) (⟨2,gS k⟩:Fault);omega
 simp only[go_sem,h1,h2,h6,h7,h5,hi];refine⟨fun ρ' H'=>∃m:Nat,m≤k∧ρ' 1=int k∧ρ' 2=.rp (aT n) 0∧ρ' 6=str (gS k)∧ρ' 7=.op i 0 0∧ρ' 5=.os j∧ρ' 8=boo ((n.arcs.take m).any (pP a))∧ρ' 9=int m∧H' i=some (sD a)∧H' j=some (bF es2),fun ρ _=>k-bE (ρ 9),
   ⟨0,Nat.zero_le _,by simp only[go_sem,h1],by simp only[go_sem,h2],by simp only[go_sem,h6],by simp only[go_sem,h7],by simp only[go_sem,h5],by simp only[go_sem];rfl,by simp only[go_sem];rfl,hi,hH⟩,?_⟩
 clear h1 h2 h6 h7 h5 hi hH;rintro ρ H ⟨m,hm,h1,h2,h6,h7,h5,h8,h9,hi,hH⟩;simp only[go_sem,h1,h2,h6,h7,h5,h8,h9];refine aB (fun hlt=>?_) (fun hge=>?_)
 · have hlt:=cF hlt
   obtain⟨c,hc⟩:=aW (show m<n.arcs.length by omega);have b2:=inB (show m<n.arcs.length by omega);simp only[go_sem,h1,h2,h6,h7,h5,h8,h9,b2,aF hc];refine aL fun x hx=>?_
   simp only[go_sem];refine aP (aA _ _ _) (by simp[dF]) ?_;have hix:=aN hi hx;have hjx:=aN hH hx;simp only[go_sem,h1,h2,h6,h7,h5,h8,h9,aC _ _ _ _ hix,hi,bA (show m≤4611686018427387904 by omega)];refine⟨⟨m+1,hlt,?_,rfl,?_⟩,by simp only[aH];omega⟩
   · rw[CG hc];simp only[pP]
   · rw[aC _ _ _ _ hjx,aC _ _ _ _ hjx,hH]
 · have hge:=cH hm hge
   subst hge;simp only[go_sem,h1,h2,h6,h7,h5,h8,h9];clear h1 h2 h8 h9;refine aU (fun ρ' H'=>ρ' 6=str (gS m)∧ρ' 7=.op i 0 0∧H' i=some (sD a)∧∃j',ρ' 5=.os j'∧j'≠i∧H' j'=some (bF (es2++opt ((n.arcs.take m).any (pP a)) ⟨6,gS m⟩))) ?_ fun K hK=>aB (fun hb=>?_) (fun hb=>?_)
   rotate_left
   · simp only[go_sem,h6,h7,h5]
     refine aX hH ⟨rfl,rfl⟩ (by simp only[go_sem]) (by simp only[List.length_map,List.length_cons,List.length_nil];omega) (fun j' hj'=>?_);simp only[go_sem];refine hK _ _ ⟨by simp only[go_sem,h6],by simp only[go_sem,h7],dN hi hji hj',j',by simp only[go_sem],(aN hi hj').symm,?_⟩;rw[iH (show((n.arcs.take m).any (pP a))=true from hb)];exact eS (l':=[⟨6,gS m⟩]) rfl
   · simp only[go_sem]
     refine hK _ _ ⟨by simp only[go_sem,h6],by simp only[go_sem,h7],hi,j,by simp only[go_sem,h5],hji,?_⟩;rw[iG (show((n.arcs.take m).any (pP a))=false from hb),List.append_nil,hH]
   clear hH h6 h7 h5;rintro ρ H ⟨h6,h7,hi,j,h5,hji,hH⟩;generalize hes3:es2++opt ((n.arcs.take m).any (pP a)) (⟨6,gS m⟩:Fault)=es3 at hH;have hln3:es3.length≤es2.length+1:=by rw[←hes3,List.length_append];have:=cD ((n.arcs.take m).any (pP a)) (⟨6,gS m⟩:Fault);omega
   simp only[go_sem,h6,h7,h5,hi];refine PC.use (Fv a.travel hst.1) ?_;simp only[go_sem];have htl:=BE a.travel;have htr:(iA (lZ n.arcs m).travel).map (fun f=>(⟨f.err,gS m⟩:Fault))=(iA a.travel).map (fun f=>⟨f.err,gS m⟩):=by rw[mR ha]
   generalize iA a.travel=tr at htl htr;refine⟨fun ρ H=>∃q:Nat,q≤tr.length∧ρ 6=str (gS m)∧ρ 7=.op i 0 0∧ρ 11=.sl (tr.map gB)∧ρ 12=int q∧H i=some (sD a)∧∃j,ρ 5=.os j∧j≠i∧H j=some (bF (es3++(tr.take q).map fun f=>⟨f.err,gS m⟩)),fun ρ _=>tr.length-bE (ρ 12),
     ⟨0,Nat.zero_le _,by simp only[go_sem,h6],by simp only[go_sem,h7],by simp only[go_sem],by simp only[go_sem];rfl,hi,j,by simp only[go_sem,h5],hji,by simpa using hH⟩,?_⟩
   clear h6 h7 h5 hi hH hji;rintro ρ H ⟨q,hq,h6,h7,h11,h12,hi,j,h5,hji,hH⟩;simp only[go_sem,h6,h7,h5,h11,h12];refine aB (fun hlt=>?_) (fun hge=>?_)
   · have hlt:=cF hlt
     obtain⟨f,hf⟩:=aW hlt;have b2:=inB hlt;simp only[go_sem,h6,h7,h5,h11,h12,b2,aF hf];refine aX hH ⟨rfl,rfl⟩ (by simp only[go_sem]) (by simp only[List.length_map,List.length_append,List.length_take,List.length_cons,List.length_nil];omega) (fun j' hj'=>?_);simp only[go_sem,h6,h7,h5,h11,h12,bA (show q≤4611686018427387904 by omega)];refine⟨⟨q+1,hlt,rfl,dN hi hji hj',j',rfl,(aN hi hj').symm,?_⟩,by simp only[aH];omega⟩;rw[At hf,←List.append_assoc];exact eS (l':=[⟨f.err,gS m⟩]) rfl
   · have hge:=cH hq hge
     subst hge;simp only[go_sem,h6,h7,h5,h11,h12,hi];clear h11 h12;rw[List.take_length]at hH;generalize hes4:es3++tr.map (fun f=>(⟨f.err,gS m⟩:Fault))=es4 at hH;have hln4:es4.length=es3.length+tr.length:=by rw[←hes4,List.length_append,List.length_map]
     refine aU (fun ρ' H'=>ρ' 6=str (gS m)∧ρ' 7=.op i 0 0∧H' i=some (sD a)∧∃j',ρ' 5=.os j'∧j'≠i∧H' j'=some (bF (es4++opt (decide ((a.slow.length:Int)>16)) ⟨4,gS m⟩))) ?_ fun K hK=>aB (fun hb=>?_) (fun hb=>?_)
     rotate_left
     · simp only[go_sem,h6,h7,h5]
       refine aX hH ⟨rfl,rfl⟩ (by simp only[go_sem]) (by simp only[List.length_map,List.length_cons,List.length_nil];omega) (fun j' hj'=>?_);simp only[go_sem];refine hK _ _ ⟨by simp only[go_sem,h6],by simp only[go_sem,h7],dN hi hji hj',j',by simp only[go_sem],(aN hi hj').symm,?_⟩;rw[iH (show(decide ((a.slow.length:Int)>16))=true from hb)];exact eS (l':=[⟨4,gS m⟩]) rfl
     · simp only[go_sem]
       refine hK _ _ ⟨by simp only[go_sem,h6],by simp only[go_sem,h7],hi,j,by simp only[go_sem,h5],hji,?_⟩;rw[iG (show(decide ((a.slow.length:Int)>16))=false from hb),List.append_nil,hH]
     clear hH h6 h7 h5;rintro ρ H ⟨h6,h7,hi,j,h5,hji,hH⟩;generalize hes5:es4++opt (decide ((a.slow.length:Int)>16)) (⟨4,gS m⟩:Fault)=es5 at hH;have hln5:es5.length≤es4.length+1:=by rw[←hes5,List.length_append];have:=cD (decide ((a.slow.length:Int)>16)) (⟨4,gS m⟩:Fault);omega
     simp only[go_sem,h6,h7,h5,hi];refine⟨fun ρ H=>∃k:Nat,k≤a.slow.length∧ρ 6=str (gS m)∧ρ 7=.op i 0 0∧ρ 13=int k∧H i=some (sD a)∧∃j,ρ 5=.os j∧j≠i∧H j=some (bF (es5++(List.range k).flatMap fun x=>opt (nE a.slow x) ⟨2,gS m⟩)),fun ρ _=>a.slow.length-bE (ρ 13),
       ⟨0,Nat.zero_le _,by simp only[go_sem,h6],by simp only[go_sem,h7],by simp only[go_sem];rfl,hi,j,by simp only[go_sem,h5],hji,by simpa using hH⟩,?_⟩
     clear h6 h7 h5 hi hH hji;rintro ρ H ⟨k,hk,h6,h7,h13,hi,j,h5,hji,hH⟩;generalize hes:es5++(List.range k).flatMap (fun x=>opt (nE a.slow x) (⟨2,gS m⟩:Fault))=es at hH;have hlen:es.length≤es5.length+k:=by
       have:=eT (f:=fun x=>opt (nE a.slow x) (⟨2,gS m⟩:Fault)) (c:=1) (fun x=>cD _ _) (List.range k);rw[←hes,List.length_append];rw[List.length_range]at this;omega
     simp only[go_sem,h6,h7,h5,h13,hi];refine aB (fun hlt=>?_) (fun hge=>?_)
     · have hlt:=cF hlt
       have hkk:k≤4611686018427387904:=by omega
       obtain⟨p,hp⟩:=aW hlt;obtain⟨r,hr⟩:=aW (show k-1<a.slow.length by omega);have b2:=inB hlt;simp only[go_sem,h6,h7,h5,h13,hi,b2,aF hp];refine aL fun x hx=>?_
       simp only[go_sem];refine aP (aA _ _ _) (by simp[dV]) ?_;have hix:=aN hi hx;have hjx:=aN hH hx;simp only[go_sem];refine fQ (by rfl) (by kernel_rfl) ?_;simp only[go_sem,h6,h7,h5,h13,aC _ _ _ _ hix,hi];refine⟨_,(Ux _).q rfl,?_⟩;simp only[go_sem,h6,h7,h5,h13,aC _ _ _ _ hix,hi];refine⟨_,fun _=>(Ux _).q rfl,?_⟩;simp only[go_sem,h6,h7,h5,h13,aC _ _ _ _ hix,hi,Ud hkk,aF hr];have hi2:aG (aG H x (some ⟨136,2,[[int 0,int 0]]⟩)) x (some ⟨136,2,[bJ p]⟩) i=some (sD a):=by rw[aC _ _ _ _ hix,aC _ _ _ _ hix,hi]
       have hH2:aG (aG H x (some ⟨136,2,[[int 0,int 0]]⟩)) x (some ⟨136,2,[bJ p]⟩) j=some (bF es):=by rw[aC _ _ _ _ hjx,aC _ _ _ _ hjx,hH]
       have hbs:nE a.slow k=(!inR p.t 0 4096|| !inR p.a 0 4096||decide ((k:Int)>0)&&decide (p.t≤r.t)):=by rw[nE,cT hp,cT hr]
       have hfl:es5++(List.range (k+1)).flatMap (fun x=>opt (nE a.slow x) (⟨2,gS m⟩:Fault))=es++opt (nE a.slow k) ⟨2,gS m⟩:=by rw[gY,←List.append_assoc,hes]
       refine⟨fun h=>by
         have:(k:Int)>0:=by simpa using h.2
         rw[nG hkk];omega,dT (fun ρ' H'=>ρ' 6=str (gS m)∧ρ' 7=.op i 0 0∧ρ' 13=int k∧H' i=some (sD a)∧∃j,ρ' 5=.os j∧j≠i∧H' j=some (bF (es++opt (nE a.slow k) ⟨2,gS m⟩))) ?_ fun K hK _ _=>aB (fun hb=>?_) (fun hb=>?_)⟩
       · clear h6 h7 h5 h13
         rintro ρ H ⟨h6,h7,h13,hi,j,h5,hji,hH⟩;simp only[go_sem,h6,h7,h5,h13,bA hkk];exact⟨⟨k+1,hlt,rfl,hi,j,rfl,hji,by rw[hfl];exact hH⟩,by simp only[aH];omega⟩
       · simp only[go_sem,h6,h7,h5,h13]
         refine aX hH2 ⟨rfl,rfl⟩ (by simp only[go_sem]) (by simp only[List.length_map,List.length_cons,List.length_nil];omega) (fun j' hj'=>?_);simp only[go_sem];refine hK _ _ ⟨by simp only[go_sem,h6],by simp only[go_sem,h7],by simp only[go_sem,h13],dN hi2 hji hj',j',by simp only[go_sem],(aN hi2 hj').symm,?_⟩;rw[iH (hbs.trans hb)];exact eS (l':=[⟨2,gS m⟩]) rfl
       · simp only[go_sem]
         refine hK _ _ ⟨by simp only[go_sem,h6],by simp only[go_sem,h7],by simp only[go_sem,h13],hi2,j,by simp only[go_sem,h5],hji,?_⟩;rw[iG (hbs.trans hb),List.append_nil,hH2]
     · have hge:=cH hk hge
       subst hge;simp only[go_sem,h5];refine⟨_,rfl,?_⟩;rw[hH,←hes,←hes5,←hes4,←htr,←hes3,←hes2,←hes1,←hes0,Cd,mR ha]
theorem CA(n:Network)(k:Nat)(ht:(lZ n.arcs k).travel.length≤1048576)(hs:(lZ n.arcs k).slow.length≤1048576):(Cd n k).length≤3145740:=by
 have h1:=cD (tE n.places.length (lZ n.arcs k)) (⟨11,gS k⟩:Fault);have h2:=cD (vK (lZ n.arcs k)) (⟨2,gS k⟩:Fault);have h3:=cD ((n.arcs.take k).any (pP (lZ n.arcs k))) (⟨6,gS k⟩:Fault);have h4:=BE (lZ n.arcs k).travel;have h5:=cD (decide (((lZ n.arcs k).slow.length:Int)>16)) (⟨4,gS k⟩:Fault);have h6:=eT (f:=fun i=>opt (nE (lZ n.arcs k).slow i) (⟨2,gS k⟩:Fault)) (c:=1) (fun x=>cD _ _) (List.range (lZ n.arcs k).slow.length);rw[List.length_range]at h6;simp only[Cd,List.length_append,List.length_map,List.length_nil];omega
theorem Bx{α β:Type}{f:α→List β}{c:Nat}:∀l:List α,(∀x∈l,(f x).length≤c)→(l.flatMap f).length≤c*l.length
 | [],_=>by simp
 | x::r,h=>by
   have h1:=h x (by simp);have h2:=Bx r fun y hy=>h y (by simp[hy])
   simp only[List.flatMap_cons,List.length_append,List.length_cons,Nat.mul_add,Nat.mul_one];omega
def DR(n:Network):List Fault:=tR n.places++opt (decide ((n.arcs.length:Int)>1024)) ⟨4,⟨#[97,114,99,115]⟩⟩++(List.range n.arcs.length).flatMap (Cd n)
theorem BR(l:List ByteArray):(tR l).length≤l.length+1:=by
 have:=eT (NZ l) (List.range l.length);have h2:=cD (decide ((l.length:Int)>24)) (⟨4,⟨#[112,108,97,99,101,115]⟩⟩:Fault);rw[tR,List.length_append];rw[List.length_range]at this;omega
theorem aaU(n : Network)(hp : n.places.length ≤ 1048576)(hps : ∀ s ∈ n.places, s.size ≤ 1048576)(hl : n.arcs.length ≤ 1048576)(hs : ∀ a ∈ n.arcs, a.travel.length ≤ 1048576 ∧ a.slow.length ≤ 1048576):
   NC Tryz.prog 30 [.agg (aT n)] (bF (DR n)) .os:=by
 have hal:∀k,(Cd n k).length≤3145740:=fun k=>by
   rcases Nat.lt_or_ge k n.arcs.length with h|h
   · obtain⟨a,ha⟩:=aW h
     have hm:=hs a (jK ha);exact CA n k (by rw[mR ha];exact hm.1) (by rw[mR ha];exact hm.2)
   · have:lZ n.arcs k=⟨0,0,0,0,[],[]⟩:=by simp[lZ,List.getD,List.getElem?_eq_none h]
     exact CA n k (by rw[this];simp) (by rw[this];simp)
 have hpl:=BR n.places;refine NC.body (c:=Tryz.f30.body.getD .skip) (fun t=>t == 3) mixed Tryz.func30 rfl (by kernel_rfl) ?_;unfold Tryz.f30;simp only[Option.getD_some];simp only[go_sem];refine NC.use (Aa n hp hps) fun j hj=>?_
 simp only[go_sem];refine oE (fun ρ' H'=>ρ' 1=.rp (aT n) 0∧∃j',ρ' 3=.os j'∧H' j'=some (bF (tR n.places))) ⟨by simp only[go_sem],j,by simp only[go_sem],aA _ _ _⟩ ?_;clear hj;rintro ρ H ⟨h1,j,h3,hH⟩;generalize hes0:tR n.places=es0 at hH hpl;refine aU (fun ρ' H'=>ρ' 1=.rp (aT n) 0∧∃j',ρ' 3=.os j'∧H' j'=some (bF (es0++opt (decide ((n.arcs.length:Int)>1024)) ⟨4,⟨#[97,114,99,115]⟩⟩))) ?_ fun K hK=>aB (fun hb=>?_) (fun hb=>?_)
 rotate_left
 · simp only[go_sem,h1,h3]
   refine aX hH ⟨rfl,rfl⟩ (by simp only[go_sem]) (by simp only[List.length_map,List.length_cons,List.length_nil];omega) (fun j' hj'=>?_);simp only[go_sem];refine hK _ _ ⟨by simp only[go_sem,h1],j',by simp only[go_sem],?_⟩;rw[iH (show(decide ((n.arcs.length:Int)>1024))=true from hb)];exact eS (l':=[⟨4,⟨#[97,114,99,115]⟩⟩]) rfl
 · simp only[go_sem]
   refine hK _ _ ⟨by simp only[go_sem,h1],j,by simp only[go_sem,h3],?_⟩;rw[iG (show(decide ((n.arcs.length:Int)>1024))=false from hb),List.append_nil,hH]
 clear hH h1 h3;rintro ρ H ⟨h1,j,h3,hH⟩;generalize hes1:es0++opt (decide ((n.arcs.length:Int)>1024)) (⟨4,⟨#[97,114,99,115]⟩⟩:Fault)=es1 at hH;have hln1:es1.length≤es0.length+1:=by rw[←hes1,List.length_append];have:=cD (decide ((n.arcs.length:Int)>1024)) (⟨4,⟨#[97,114,99,115]⟩⟩:Fault);omega
 simp only[go_sem,h1,h3];refine⟨fun ρ H=>∃k:Nat,k≤n.arcs.length∧ρ 1=.rp (aT n) 0∧ρ 4=int k∧∃j,ρ 3=.os j∧H j=some (bF (es1++(List.range k).flatMap (Cd n))),fun ρ _=>n.arcs.length-bE (ρ 4),⟨0,Nat.zero_le _,by simp only[go_sem,h1],by simp only[go_sem];rfl,j,by simp only[go_sem,h3],by simpa using hH⟩,?_⟩;clear hH h1 h3;rintro ρ H ⟨k,hk,h1,h4,j,h3,hH⟩;generalize hes:es1++(List.range k).flatMap (Cd n)=es at hH;have hlen:es.length≤es1.length+3145740*k:=by
   have:=eT hal (List.range k);rw[←hes,List.length_append];rw[List.length_range]at this;omega
 simp only[go_sem,h1,h3,h4];refine aB (fun hlt=>?_) (fun hge=>?_)
 · have hlt:=cF hlt
   simp only[go_sem,h1,h3,h4];refine NC.use (aeV n k hlt hp hl hs) fun i hi=>?_
   simp only[go_sem];have:=hal k;refine zM (jV hH hi) (aA _ _ _) ⟨rfl,rfl⟩ (oF _) (by simp only[List.length_map];omega) (fun j' hj'=>?_);simp only[go_sem,h1,h3,h4,bA (show k≤4611686018427387904 by omega)];refine⟨⟨k+1,hlt,rfl,j',rfl,?_⟩,by simp only[aH];omega⟩;rw[gY,←List.append_assoc,hes];exact eS rfl
 · have hge:=cH hk hge
   subst hge;simp only[go_sem,h3];exact⟨_,rfl,by rw[hH,←hes,←hes1,←hes0];rfl⟩
def small(l:List Fault):Prop:=∀f∈l,f.at_.size≤4194304
theorem QA:small []:=by simp[small]
theorem iI{a b:List Fault}(ha:small a)(hb:small b):small (a++b):=fun f hf=>(List.mem_append.1 hf).elim (ha f) (hb f)
theorem gW{b:Bool}{f:Fault}(h:f.at_.size≤4194304):small (opt b f):=by
 cases b
 · simp[small,opt]
 · intro g hg;simp[opt]at hg;subst hg;exact h
theorem oA{α:Type}{F:α→List Fault}{l:List α}(h:∀x∈l,small (F x)):small (l.flatMap F):=fun f hf=>by
 obtain⟨x,hx,hf⟩:=List.mem_flatMap.1 hf;exact h x hx f hf
theorem Bs{α:Type}{F:α→Fault}{l:List α}(h:∀x∈l,(F x).at_.size≤4194304):small (l.map F):=fun f hf=>by
 obtain⟨x,hx,rfl⟩:=List.mem_map.1 hf;exact h x hx
theorem sQ{i n:Nat}(h:i∈List.range n):i<n:=List.mem_range.1 h
theorem PL(i:Nat):(gS i).size≤i+5:=by
 have:=mT i;unfold gS;rw[ByteArray.size_append];have:(⟨#[97,114,99,32]⟩:ByteArray).size=4:=rfl;omega
theorem LG(w:ByteArray)(i:Nat):(vH w i).size≤w.size+i+2:=by
 have:=mT i;unfold vH;rw[ByteArray.size_append,ByteArray.size_append];have:(⟨#[32]⟩:ByteArray).size=1:=rfl;omega
theorem HI(l:List ByteArray)(h:l.length≤1048576):small (tR l):=iI (gW (by decide)) (oA fun i hi=>by
 have:=sQ hi;have:=KS i;unfold fV;split
 · exact gW (b:=true) (by show(qB i).size≤_;omega)
 · exact gW (by show(qB i).size≤_;omega))
theorem QV(n:Network)(hp:n.places.length≤1048576)(hl:n.arcs.length≤1048576):small (DR n):=by
 refine iI (iI (HI _ hp) (gW (by decide))) (oA fun i hi=>?_);have:=sQ hi;have h:(gS i).size≤4194304:=by have:=PL i;omega
 exact iI (iI (iI (iI (iI (iI QA (gW h)) (gW h)) (gW h)) (Bs fun _ _=>h)) (gW h)) (oA fun _ _=>gW h)
theorem Kj(n:Network)(l:List VType)(hl:l.length≤1048576):small (pZ n l):=
 iI (gW (by decide)) (oA fun i hi=>Bs fun _ _=>by have:=sQ hi;have:=mT i;show(jN i).size≤_;omega)
theorem G9(n:Network)(d T:Int)(l:List Order)(hl:l.length≤1048576):small (oJ n d T l):=
 iI (gW (by decide)) (oA fun i hi=>Bs fun _ _=>by have:=sQ hi;have:=mT i;show(jN i).size≤_;omega)
theorem BB(N:Int)(l:List Pair)(w:ByteArray)(b:Bool)(hl:l.length≤1048576)(hw:w.size≤100):small (rT N l w b):=iI (gW (by show w.size≤_;omega)) (oA fun i hi=>by
 have:=sQ hi;have:=LG w i;unfold gC;split
 · exact gW (b:=true) (by show(vH w i).size≤_;omega)
 · exact gW (by show(vH w i).size≤_;omega))
theorem Na(n:Network)(l:List VType):(pZ n l).length≤9*l.length+1:=by
 have:=eT (f:=gX n l) (c:=9) (fun x=>by unfold gX;rw[List.length_map];exact uJ _ _ _ _) (List.range l.length);have h2:=cD (!inR l.length 1 6) (⟨4,ByteArray.empty⟩:Fault);rw[pZ,List.length_append];rw[List.length_range]at this;omega
theorem JO(n:Network)(d T:Int)(l:List Order):(oJ n d T l).length≤9*l.length+1:=by
 have:=eT (f:=fW n d T l) (c:=9) (fun x=>by unfold fW;rw[List.length_map];exact rO _ _ _ _ _ _) (List.range l.length);have h2:=cD (decide ((l.length:Int)>10)) (⟨4,ByteArray.empty⟩:Fault);rw[oJ,List.length_append];rw[List.length_range]at this;omega
structure InB(x:Instance):Prop where
 places:x.net.places.length≤1048576
 place:∀s∈x.net.places,s.size≤1048576
 arcs:x.net.arcs.length≤1048576
 arc:∀a∈x.net.arcs,a.travel.length≤1048576∧a.slow.length≤1048576
 types:x.types.length≤1048576
 type:∀t∈x.types,t.name.size≤1048576∧t.cap.length≤1048576
 orders:x.orders.length≤1048576
 order:∀t∈x.orders,t.name.size≤1048576∧t.load.length≤1048576
 apart:x.apart.length≤1048576
 before:x.before.length≤1048576
def A3(x:Instance):List Fault:=rT x.orders.length x.apart ⟨#[97,112,97,114,116]⟩ true++rT x.orders.length x.before ⟨#[98,101,102,111,114,101]⟩ false
def lQ(x:Instance):List Fault:=(DR x.net).map (kR ⟨#[110,101,116]⟩)++(pZ x.net x.types).map (kR ⟨#[116,121,112,101,115]⟩) ++
 (oJ x.net (lY x.types) x.types.length x.orders).map (kR ⟨#[111,114,100,101,114,115]⟩)++(A3 x).map (kR ⟨#[114,117,108,101,115]⟩)
theorem Uv(x:Instance)(h:InB x):(DR x.net).length≤3300000000000:=by
 have h1:=BR x.net.places;have h2:=cD (decide ((x.net.arcs.length:Int)>1024)) (⟨4,⟨#[97,114,99,115]⟩⟩:Fault);have h3:=Bx (f:=Cd x.net) (c:=3145740) (List.range x.net.arcs.length) fun k hk=>by
   obtain⟨a,ha⟩:=aW (sQ hk);have hm:=h.arc a (jK ha);exact CA x.net k (by rw[mR ha];exact hm.1) (by rw[mR ha];exact hm.2)
 have h4:=h.places;have h5:=h.arcs;rw[List.length_range]at h3;simp only[DR,List.length_append];omega
theorem WO(x:Instance)(h:InB x):NC Tryz.prog 9 [.agg (aS x)] (bF (lQ x)) .os:=by
 have c1:PC Tryz.prog 30 [.agg (aT x.net)] (.sl ((DR x.net).map gB)):=NC.pc (aaU x.net h.places h.place h.arcs h.arc);have c2:PC Tryz.prog 31 [.agg (aT x.net),.sl (x.types.map bC)] (.sl ((pZ x.net x.types).map gB)):=NC.pc (VZ x.net x.types h.types h.type h.places);have c3:PC Tryz.prog 32 [.agg (aT x.net),int (lY x.types),int x.types.length,.sl (x.orders.map aV)] (.sl ((oJ x.net (lY x.types) x.types.length x.orders).map gB)):=NC.pc (Tx x.net _ _ x.orders h.orders h.order h.places);have c4:PC Tryz.prog 34 [int x.orders.length,.sl (x.apart.map gF),.sl (x.before.map gF)] (.sl ((A3 x).map gB)):=NC.pc (GM x.orders.length x.apart x.before h.apart h.before);have l1:=Uv x h;have l2:=Na x.net x.types;have l3:=JO x.net (lY x.types) x.types.length x.orders;have l4:(A3 x).length≤2097154:=by
   have a1:=uP x.orders.length x.apart ⟨#[97,112,97,114,116]⟩ true;have a2:=uP x.orders.length x.before ⟨#[98,101,102,111,114,101]⟩ false;have:=h.apart;have:=h.before;rw[A3,List.length_append];omega
 have s1:=QV x.net h.places h.arcs;have s2:=Kj x.net x.types h.types;have s3:=G9 x.net (lY x.types) x.types.length x.orders h.orders;have s4:small (A3 x):=iI (BB _ _ _ _ h.apart (by decide)) (BB _ _ _ _ h.before (by decide));have ht:=h.types;have ho:=h.orders;refine NC.body (c:=Tryz.f9.body.getD .skip) (fun t=>t == 27) mixed Tryz.func9 rfl (by kernel_rfl) ?_;unfold Tryz.f9;simp only[Option.getD_some];simp only[go_sem];refine PC.use c1 ?_;simp only[go_sem];refine NC.use (Cq ⟨#[110,101,116]⟩ _ (by decide) (by omega) fun f hf=>Nat.le_trans (s1 f hf) (by decide)) fun j hj=>?_
 simp only[go_sem];refine PC.use c2 ?_;simp only[go_sem];refine NC.use (Cq ⟨#[116,121,112,101,115]⟩ _ (by decide) (by omega) fun f hf=>Nat.le_trans (s2 f hf) (by decide)) fun i hi=>?_
 simp only[go_sem];refine zM (jV (aA _ _ _) hi) (aA _ _ _) ⟨rfl,rfl⟩ (oF _) (by simp only[List.length_map];omega) (fun j' hj'=>?_);simp only[go_sem];refine HR (by kernel_rfl) ?_;simp only[go_sem];refine⟨_,(SB x.types).q rfl,?_⟩;simp only[go_sem];have hH:=eS (e:=128) (sz:=2) (enc:=gB) (H:=aG (aG (aG bU j (some (bF ((DR x.net).map (kR ⟨#[110,101,116]⟩))))) i (some (bF ((pZ x.net x.types).map (kR ⟨#[116,121,112,101,115]⟩))))) j none) (k:=j') (l:=(DR x.net).map (kR ⟨#[110,101,116]⟩)) (l':=(pZ x.net x.types).map (kR ⟨#[116,121,112,101,115]⟩)) rfl;generalize aG (aG (aG (aG bU j _) i _) j none) j' _=H at hH ⊢;generalize hes:(DR x.net).map (kR ⟨#[110,101,116]⟩)++(pZ x.net x.types).map (kR ⟨#[116,121,112,101,115]⟩)=es at hH;have hel:es.length≤3300000000000+9*x.types.length+1:=by rw[←hes,List.length_append,List.length_map,List.length_map];omega
 clear hi hj hj';refine PC.use c3 ?_;simp only[go_sem];refine NC.use (Cq ⟨#[111,114,100,101,114,115]⟩ _ (by decide) (by omega) fun f hf=>Nat.le_trans (s3 f hf) (by decide)) fun i hi=>?_
 simp only[go_sem];refine zM (jV hH hi) (aA _ _ _) ⟨rfl,rfl⟩ (oF _) (by simp only[List.length_map];omega) (fun k hk=>?_);simp only[go_sem];have hH2:=eS (e:=128) (sz:=2) (enc:=gB) (H:=aG (aG H i (some (bF ((oJ x.net (lY x.types) x.types.length x.orders).map (kR ⟨#[111,114,100,101,114,115]⟩))))) j' none) (k:=k) (l:=es) (l':=(oJ x.net (lY x.types) x.types.length x.orders).map (kR ⟨#[111,114,100,101,114,115]⟩)) rfl;generalize aG (aG (aG H i _) j' none) k _=H2 at hH2 ⊢;clear hi hk;refine PC.use c4 ?_;simp only[go_sem];refine NC.use (Cq ⟨#[114,117,108,101,115]⟩ _ (by decide) (by omega) fun f hf=>Nat.le_trans (s4 f hf) (by decide)) fun q hq=>?_
 simp only[go_sem];refine zM (jV hH2 hq) (aA _ _ _) ⟨rfl,rfl⟩ (oF _) (by simp only[List.length_map,List.length_append];omega) (fun m hm=>?_);simp only[go_sem];refine⟨m,rfl,?_⟩;rw[lQ,hes];exact eS rfl
end Go.Proofs.YtdlijlecpopadaaGreatDoor
