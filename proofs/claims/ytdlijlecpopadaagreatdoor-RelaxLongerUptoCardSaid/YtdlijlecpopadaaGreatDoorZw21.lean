/- Texts joined by a program: RefI. -/
import Derived.Test.YtdlijlecpopadaaGreatDoorZw20
set_option linter.unusedSimpArgs false
set_option linter.unusedVariables false
set_option maxRecDepth 100000
namespace Go.Proofs.YtdlijlecpopadaaGreatDoor
open Go.Aw Go.Aw.D Go.Proofs Ty
def pAt(l:List Pair)(i:Nat):Pair:=l.getD i ⟨0,0⟩
theorem FT{l:List Pair}{k:Nat}{p:Pair}(h:l[k]?=some p):pAt l k=p:=by simp[pAt,List.getD,h]
def tW(w:ByteArray)(k:Nat):ByteArray:=w++⟨#[32]⟩++iP k
def xR(N:Int)(p:Pair):Bool:=decide (p.a<0)||decide (p.a≥N)||decide (p.b<0)||decide (p.b≥N)||p.a == p.b
def uG(b:Bool)(p q:Pair):Bool:=(q.a == p.a&&q.b == p.b)||(b&&q.a == p.b&&q.b == p.a)
def fJ(N:Int)(l:List Pair)(w:ByteArray)(b:Bool)(k:Nat):List Fault:=match xR N (pAt l k)with
 | true=>[⟨2,tW w k⟩]
 | false=>opt ((l.take k).any (uG b (pAt l k))) ⟨6,tW w k⟩
theorem uT(N:Int)(l:List Pair)(w:ByteArray)(b:Bool)(k:Nat):(fJ N l w b k).length≤1:=by
 unfold fJ;split
 · simp
 · exact bW _ _
def qW(N:Int)(l:List Pair)(w:ByteArray)(b:Bool):List Fault:=opt (decide ((l.length:Int)>16)) ⟨4,w⟩++(List.range l.length).flatMap (fJ N l w b)
theorem J3(N:Int)(l:List Pair)(w:ByteArray)(b:Bool)(hl:l.length≤1048576)(hw:w.size≤1048576):
   NC Tryz.prog 74 [int N,.sl (l.map fL),str w,boo b] (aY (qW N l w b)) .os:=by
 refine NC.body (c:=Tryz.f74.body.getD .skip) (fun t=>t == 9) mixed Tryz.func74 rfl (by kernel_rfl) ?_;unfold Tryz.f74;simp only[Option.getD_some];simp only[go_sem];refine aN fun j hj=>?_
 simp only[go_sem];refine mX (fun ρ' H'=>ρ' 0=int N∧ρ' 1=.sl (l.map fL)∧ρ' 2=str w∧ρ' 3=boo b∧∃j',ρ' 9=.os j'∧H' j'=some (aY [])) ⟨by simp only[go_sem],by simp only[go_sem],by simp only[go_sem],by simp only[go_sem],_,by simp only[go_sem],aB _ _ _⟩ ?_;rintro ρ H ⟨h0,h1,h2,h3,j,h9,hH⟩;generalize hes0:([]:List Fault)=es0 at hH;have hln0:es0.length≤0:=by rw[←hes0];exact Nat.le_refl _
 refine bD (fun ρ' H'=>ρ' 0=int N∧ρ' 1=.sl (l.map fL)∧ρ' 2=str w∧ρ' 3=boo b∧∃j',ρ' 9=.os j'∧H' j'=some (aY (es0++opt (decide ((l.length:Int)>16)) ⟨4,w⟩))) ?_ fun K hK=>aA (fun hb=>?_) (fun hb=>?_)
 rotate_left
 · simp only[go_sem,h0,h1,h2,h3,h9]
   refine bC hH ⟨rfl,rfl⟩ (by simp only[go_sem]) (by simp only[List.length_map,List.length_cons,List.length_nil];omega) (fun j' hj'=>?_);simp only[go_sem];refine hK _ _ ⟨by simp only[go_sem,h0],by simp only[go_sem,h1],by simp only[go_sem,h2],by simp only[go_sem,h3],j',by simp only[go_sem],?_⟩;rw[gN (show(decide ((l.length:Int)>16))=true from hb)];exact dV (l':=[⟨4,w⟩]) rfl
 · simp only[go_sem]
   refine hK _ _ ⟨by simp only[go_sem,h0],by simp only[go_sem,h1],by simp only[go_sem,h2],by simp only[go_sem,h3],j,by simp only[go_sem,h9],?_⟩;rw[gO (show(decide ((l.length:Int)>16))=false from hb),List.append_nil,hH]
 clear hH h0 h1 h2 h3 h9;rintro ρ H ⟨h0,h1,h2,h3,j,h9,hH⟩;generalize hes1:es0++opt (decide ((l.length:Int)>16)) (⟨4,w⟩:Fault)=es1 at hH;have hln1:es1.length≤es0.length+1:=by rw[←hes1,List.length_append];have:=bW (decide ((l.length:Int)>16)) (⟨4,w⟩:Fault);omega
 simp only[go_sem,h0,h1,h2,h3,h9];refine⟨fun ρ H=>∃k:Nat,k≤l.length∧ρ 0=int N∧ρ 1=.sl (l.map fL)∧ρ 2=str w∧ρ 3=boo b∧ρ 10=int k∧∃j,ρ 9=.os j∧H j=some (aY (es1++(List.range k).flatMap (fJ N l w b))),fun ρ _=>l.length-bR (ρ 10),
   ⟨0,Nat.zero_le _,by simp only[go_sem,h0],by simp only[go_sem,h1],by simp only[go_sem,h2],by simp only[go_sem,h3],by simp only[go_sem];rfl,j,by simp only[go_sem,h9],by simpa using hH⟩,?_⟩
 clear hH h0 h1 h2 h3 h9 hj;rintro ρ H ⟨k,hk,h0,h1,h2,h3,h10,j,h9,hH⟩;generalize hes:es1++(List.range k).flatMap (fJ N l w b)=es at hH;have hlen:es.length≤k+1:=by
   have:=dT (uT N l w b) (List.range k);rw[←hes,List.length_append];rw[List.length_range]at this;omega
 simp only[go_sem,h0,h1,h2,h3,h9,h10];refine aA (fun hlt=>?_) (fun hge=>?_)
 · have hlt:=cA hlt
   have hkk:k≤4611686018427387904:=by omega
   obtain⟨p,hp⟩:=bA hlt;have b1:=inB hlt;have hds:=lP k;have h32:(#[32]:Array UInt8).size=1:=rfl;have hfl:es1++(List.range (k+1)).flatMap (fJ N l w b)=es++fJ N l w b k:=by rw[gF,←List.append_assoc,hes]
   simp only[go_sem,h0,h1,h2,h3,h9,h10,b1,aH hp];refine⟨by omega,by omega,by rw[tO];omega,?_⟩;refine PC.use (Tx _ (by omega)) ?_;simp only[go_sem,h0,h1,h2,h3,h9,h10];refine⟨by rw[tO];omega,?_⟩;refine aA (fun hb=>?_) (fun hb=>?_)
   · simp only[go_sem,h0,h1,h2,h3,h9,h10]
     refine bC hH ⟨rfl,rfl⟩ (by simp only[go_sem]) (by simp only[List.length_map,List.length_cons,List.length_nil];omega) (fun j' hj'=>?_);simp only[go_sem,h0,h1,h2,h3,h10,bG hkk];refine⟨⟨k+1,hlt,rfl,j',rfl,?_⟩,by simp only[aI];omega⟩;have hn:xR N (pAt l k)=true:=by rw[FT hp];exact hb
     rw[hfl,fJ,hn];exact dV (l':=[⟨2,tW w k⟩]) rfl
   · simp only[go_sem,h0,h1,h2,h3,h9,h10]
     have hn:xR N (pAt l k)=false:=by rw[FT hp];exact hb
     refine⟨fun ρ H'=>∃m:Nat,m≤k∧ρ 0=int N∧ρ 1=.sl (l.map fL)∧ρ 2=str w∧ρ 3=boo b∧ρ 9=.os j∧ρ 10=int k∧ρ 11=int p.a∧ρ 12=int p.b∧ρ 13=str (tW w k)∧ρ 14=boo ((l.take m).any (uG b p))∧ρ 15=int m∧H'=H,fun ρ _=>k-bR (ρ 15),
       ⟨0,Nat.zero_le _,by simp only[go_sem,h0],by simp only[go_sem,h1],by simp only[go_sem,h2],by simp only[go_sem,h3],by simp only[go_sem,h9],by simp only[go_sem,h10],by simp only[go_sem],by simp only[go_sem],by simp only[go_sem];rfl,by simp only[go_sem];rfl,by simp only[go_sem];rfl,rfl⟩,?_⟩
     clear h0 h1 h2 h3 h9 h10;rintro ρ H' ⟨m,hm,h0,h1,h2,h3,h9,h10,h11,h12,h13,h14,h15,rfl⟩;simp only[go_sem,h0,h1,h2,h3,h9,h10,h11,h12,h13,h14,h15];refine aA (fun hlt2=>?_) (fun hge2=>?_)
     · have hlt2:=cA hlt2
       obtain⟨q,hq⟩:=bA (show m<l.length by omega);have b2:=inB (show m<l.length by omega);simp only[go_sem,h0,h1,h2,h3,h9,h10,h11,h12,h13,h14,h15,b2,aH hq,bG (show m≤4611686018427387904 by omega)];refine⟨fun _=>by omega,fun _=>by omega,fun _=>by omega,fun _=>by omega,⟨m+1,hlt2,?_,rfl⟩,by simp only[aI];omega⟩;rw[BB hq];simp only[uG,Bool.or_assoc]
     · have hge2:=cE hm hge2
       subst hge2;simp only[go_sem,h14];have hsb:(l.take m).any (uG b (pAt l m))=(l.take m).any (uG b p):=by rw[FT hp]
       refine fW (fun ρ' H'=>ρ' 0=int N∧ρ' 1=.sl (l.map fL)∧ρ' 2=str w∧ρ' 3=boo b∧ρ' 10=int m∧∃j,ρ' 9=.os j∧H' j=some (aY (es1++(List.range (m+1)).flatMap (fJ N l w b)))) ?_ fun K hK _ _=>aA (fun hb=>?_) (fun hb=>?_)
       · clear hH h0 h1 h2 h3 h9 h10
         rintro ρ H ⟨h0,h1,h2,h3,h10,j,h9,hH⟩;simp only[go_sem,h0,h1,h2,h3,h9,h10,bG hkk];exact⟨⟨m+1,hlt,rfl,j,rfl,hH⟩,by simp only[aI];omega⟩
       · simp only[go_sem,h0,h1,h2,h3,h9,h10,h13]
         refine bC hH ⟨rfl,rfl⟩ (by simp only[go_sem]) (by simp only[List.length_map,List.length_cons,List.length_nil];omega) (fun j' hj'=>?_);simp only[go_sem];refine hK _ _ ⟨by simp only[go_sem,h0],by simp only[go_sem,h1],by simp only[go_sem,h2],by simp only[go_sem,h3],by simp only[go_sem,h10],j',by simp only[go_sem],?_⟩;rw[hfl,fJ,hn];show _=some (aY (es++opt _ ⟨6,tW w m⟩));rw[gN (hsb.trans hb)];exact dV (l':=[⟨6,tW w m⟩]) rfl
       · simp only[go_sem]
         refine hK _ _ ⟨by simp only[go_sem,h0],by simp only[go_sem,h1],by simp only[go_sem,h2],by simp only[go_sem,h3],by simp only[go_sem,h10],j,by simp only[go_sem,h9],?_⟩;rw[hfl,fJ,hn];show _=some (aY (es++opt _ ⟨6,tW w m⟩));rw[gO (hsb.trans hb),List.append_nil,hH]
 · have hge:=cE hk hge
   subst hge;simp only[go_sem,h9];exact⟨_,rfl,by rw[hH,←hes,←hes1,←hes0];rfl⟩
theorem nA:∀l:List Fault,dP 2 (l.map fG)
 | []=>trivial
 | f::r=>⟨rfl,nA r⟩
theorem tL(N:Int)(l:List Pair)(w:ByteArray)(b:Bool):(qW N l w b).length≤l.length+1:=by
 have:=dT (uT N l w b) (List.range l.length);have h2:=bW (decide ((l.length:Int)>16)) (⟨4,w⟩:Fault);rw[qW,List.length_append];rw[List.length_range]at this;omega
theorem F1(N:Int)(ap be:List Pair)(hl:ap.length≤1048576)(hl2:be.length≤1048576):
   NC Tryz.prog 34 [int N,.sl (ap.map fL),.sl (be.map fL)] (aY (qW N ap ⟨#[97,112,97,114,116]⟩ true++qW N be ⟨#[98,101,102,111,114,101]⟩ false)) .os:=by
 refine NC.body (c:=Tryz.f34.body.getD .skip) (fun t=>t == 7) mixed Tryz.func34 rfl (by kernel_rfl) ?_;unfold Tryz.f34;simp only[Option.getD_some];simp only[go_sem];refine NC.use (J3 N ap ⟨#[97,112,97,114,116]⟩ true hl (by decide)) fun j hj=>?_
 simp only[go_sem];refine NC.use (J3 N be ⟨#[98,101,102,111,114,101]⟩ false hl2 (by decide)) fun i hi=>?_
 simp only[go_sem];have l1:=tL N ap ⟨#[97,112,97,114,116]⟩ true;have l2:=tL N be ⟨#[98,101,102,111,114,101]⟩ false;refine xO (jN (aB _ _ _) hi) (aB _ _ _) ⟨rfl,rfl⟩ (nA _) (by simp only[List.length_map];omega) (fun j' hj'=>?_);simp only[go_sem];exact⟨_,rfl,dV rfl⟩
theorem NC.pc{f:FuncId}{args:List AV}{row:Row}(h:NC Tryz.prog f args row .os):PC Tryz.prog f args (.sl row.es):=
 RC.conv (RC.mono h fun r H' ⟨k,e,hk⟩=>by subst e;exact .row k row row.es hk (ConvE.refl _))
def lE(l:List Arc)(i:Nat):Arc:=l.getD i ⟨0,0,0,0,[],[]⟩
theorem lO{l:List Arc}{k:Nat}{p:Arc}(h:l[k]?=some p):lE l k=p:=by simp[lE,List.getD,h]
def fZ(k:Nat):ByteArray:=⟨#[97,114,99,32]⟩++iP k
def sX(N:Int)(a:Arc):Bool:=decide (a.src<0)||decide (a.src≥N)||decide (a.dst<0)||decide (a.dst≥N)
def uS(a:Arc):Bool:=decide (a.profile<0)||decide (a.profile>7)||decide (a.miles<0)||decide (a.miles>10000)||a.src == a.dst
def oR(a b:Arc):Bool:=a.src == b.src&&a.dst == b.dst&&a.profile == b.profile
def mB(l:List Point)(i:Nat):Bool:= !inR (dB l i).t 0 4096|| !inR (dB l i).a 0 4096||decide ((i:Int)>0)&&decide ((dB l i).t≤(dB l (i-1)).t)
def A7(n:Network)(k:Nat):List Fault:=
 []++opt (sX n.places.length (lE n.arcs k)) ⟨11,fZ k⟩++opt (uS (lE n.arcs k)) ⟨2,fZ k⟩++opt ((n.arcs.take k).any (oR (lE n.arcs k))) ⟨6,fZ k⟩
   ++ (gZ (lE n.arcs k).travel).map (fun f=>⟨f.err,fZ k⟩)++opt (decide (((lE n.arcs k).slow.length:Int)>16)) ⟨4,fZ k⟩
   ++ (List.range (lE n.arcs k).slow.length).flatMap fun i=>opt (mB (lE n.arcs k).slow i) ⟨2,fZ k⟩
theorem Oj(l:List Point)(hl:l.length≤1048576):PC Tryz.prog 131 [.sl (l.map bS)] (.sl ((gZ l).map fG)):=NC.pc (PB l hl)
theorem AD(l:List Point):(gZ l).length≤2*l.length+1:=by
 have:=dT (Tt l) (List.range l.length);have h2:=bW (Cy l.length 1 16) (⟨4,ByteArray.empty⟩:Fault);rw[gZ,List.length_append];rw[List.length_range]at this;omega
theorem aeO(n:Network)(k:Nat)(hk:k<n.arcs.length)(hp:n.places.length≤1048576)(hl:n.arcs.length≤1048576)(hs:∀a∈n.arcs,a.travel.length≤1048576∧a.slow.length≤1048576):
   NC Tryz.prog 69 [.agg (aP n),int k] (aY (A7 n k)) .os:=by
 refine NC.body (c:=Tryz.f69.body.getD .skip) (fun t=>t == 5) mixed Tryz.func69 rfl (by kernel_rfl) ?_;unfold Tryz.f69;simp only[Option.getD_some];simp only[go_sem];obtain⟨a,ha⟩:=bA hk;have b1:=inB hk;have hst:=hs a (iQ ha);have hds:=lP k;refine aN fun j hj=>?_
 simp only[go_sem];refine PC.use (oZ _ (by omega)) ?_;simp only[go_sem,b1,aH ha];have h4:(#[97,114,99,32]:Array UInt8).size=4:=rfl;refine⟨by rw[tO];omega,aN fun i hi=>?_⟩;simp only[go_sem];refine aT (aB _ _ _) (by simp[gV]) ?_;simp only[go_sem];have hji:j≠i:=aO (aB _ _ _) hi;have he1:fZ k=⟨#[97,114,99,32]⟩++iP k:=rfl;refine mX (fun ρ' H'=>ρ' 1=int k∧ρ' 2=.rp (aP n) 0∧ρ' 6=str (fZ k)∧ρ' 7=.op i 0 0∧H' i=some (qX a)∧∃j',ρ' 5=.os j'∧j'≠i∧H' j'=some (aY []))
   ⟨by simp only[go_sem],by simp only[go_sem],by simp only[go_sem,he1],by simp only[go_sem],aB _ _ _,j,by simp only[go_sem],hji,by rw[aD _ _ _ _ hji,aD _ _ _ _ hji,aB];rfl⟩ ?_
 clear hi hj hji;rintro ρ H ⟨h1,h2,h6,h7,hi,j,h5,hji,hH⟩;generalize hes0:([]:List Fault)=es0 at hH;have hln0:es0.length≤0:=by rw[←hes0];exact Nat.le_refl _
 refine bD (fun ρ' H'=>ρ' 1=int k∧ρ' 2=.rp (aP n) 0∧ρ' 6=str (fZ k)∧ρ' 7=.op i 0 0∧H' i=some (qX a)∧∃j',ρ' 5=.os j'∧j'≠i∧H' j'=some (aY (es0++opt (sX n.places.length a) ⟨11,fZ k⟩))) ?_ fun K hK=>aA (fun hb=>?_) (fun hb=>?_)
 rotate_left
 · simp only[go_sem,h1,h2,h6,h7,h5]
   refine bC hH ⟨rfl,rfl⟩ (by simp only[go_sem]) (by simp only[List.length_map,List.length_cons,List.length_nil];omega) (fun j' hj'=>?_);simp only[go_sem];refine hK _ _ ⟨by simp only[go_sem,h1],by simp only[go_sem,h2],by simp only[go_sem,h6],by simp only[go_sem,h7],dE hi hji hj',j',by simp only[go_sem],(aO hi hj').symm,?_⟩;rw[gN (show(sX n.places.length a)=true from hb)];exact dV (l':=[⟨11,fZ k⟩]) rfl
 · simp only[go_sem]
   refine hK _ _ ⟨by simp only[go_sem,h1],by simp only[go_sem,h2],by simp only[go_sem,h6],by simp only[go_sem,h7],hi,j,by simp only[go_sem,h5],hji,?_⟩;rw[gO (show(sX n.places.length a)=false from hb),List.append_nil,hH]
 clear hH h1 h2 h6 h7 h5;rintro ρ H ⟨h1,h2,h6,h7,hi,j,h5,hji,hH⟩;generalize hes1:es0++opt (sX n.places.length a) (⟨11,fZ k⟩:Fault)=es1 at hH;have hln1:es1.length≤es0.length+1:=by rw[←hes1,List.length_append];have:=bW (sX n.places.length a) (⟨11,fZ k⟩:Fault);omega
 simp only[go_sem,h1,h2,h6,h7,h5,hi];refine bD (fun ρ' H'=>ρ' 1=int k∧ρ' 2=.rp (aP n) 0∧ρ' 6=str (fZ k)∧ρ' 7=.op i 0 0∧H' i=some (qX a)∧∃j',ρ' 5=.os j'∧j'≠i∧H' j'=some (aY (es1++opt (uS a) ⟨2,fZ k⟩))) ?_ fun K hK=>aA (fun hb=>?_) (fun hb=>?_)
 rotate_left
 · simp only[go_sem,h1,h2,h6,h7,h5]
   refine bC hH ⟨rfl,rfl⟩ (by simp only[go_sem]) (by simp only[List.length_map,List.length_cons,List.length_nil];omega) (fun j' hj'=>?_);simp only[go_sem];refine hK _ _ ⟨by simp only[go_sem,h1],by simp only[go_sem,h2],by simp only[go_sem,h6],by simp only[go_sem,h7],dE hi hji hj',j',by simp only[go_sem],(aO hi hj').symm,?_⟩;rw[gN (show(uS a)=true from hb)];exact dV (l':=[⟨2,fZ k⟩]) rfl
 · simp only[go_sem]
   refine hK _ _ ⟨by simp only[go_sem,h1],by simp only[go_sem,h2],by simp only[go_sem,h6],by simp only[go_sem,h7],hi,j,by simp only[go_sem,h5],hji,?_⟩;rw[gO (show(uS a)=false from hb),List.append_nil,hH]
 clear hH h1 h2 h6 h7 h5;rintro ρ H ⟨h1,h2,h6,h7,hi,j,h5,hji,hH⟩;generalize hes2:es1++opt (uS a) (⟨2,fZ k⟩:Fault)=es2 at hH;have hln2:es2.length≤es1.length+1:=by rw[←hes2,List.length_append];have:=bW (uS a) (⟨2,fZ k⟩:Fault);omega
 simp only[go_sem,h1,h2,h6,h7,h5,hi];refine⟨fun ρ' H'=>∃m:Nat,m≤k∧ρ' 1=int k∧ρ' 2=.rp (aP n) 0∧ρ' 6=str (fZ k)∧ρ' 7=.op i 0 0∧ρ' 5=.os j∧ρ' 8=boo ((n.arcs.take m).any (oR a))∧ρ' 9=int m∧H' i=some (qX a)∧H' j=some (aY es2),fun ρ _=>k-bR (ρ 9),
   ⟨0,Nat.zero_le _,by simp only[go_sem,h1],by simp only[go_sem,h2],by simp only[go_sem,h6],by simp only[go_sem,h7],by simp only[go_sem,h5],by simp only[go_sem];rfl,by simp only[go_sem];rfl,hi,hH⟩,?_⟩
 clear h1 h2 h6 h7 h5 hi hH;rintro ρ H ⟨m,hm,h1,h2,h6,h7,h5,h8,h9,hi,hH⟩;simp only[go_sem,h1,h2,h6,h7,h5,h8,h9];refine aA (fun hlt=>?_) (fun hge=>?_)
 · have hlt:=cA hlt
   obtain⟨c,hc⟩:=bA (show m<n.arcs.length by omega);have b2:=inB (show m<n.arcs.length by omega);simp only[go_sem,h1,h2,h6,h7,h5,h8,h9,b2,aH hc];refine aN fun x hx=>?_
   simp only[go_sem];refine aT (aB _ _ _) (by simp[gV]) ?_;have hix:=aO hi hx;have hjx:=aO hH hx;simp only[go_sem,h1,h2,h6,h7,h5,h8,h9,aD _ _ _ _ hix,hi,bG (show m≤4611686018427387904 by omega)];refine⟨⟨m+1,hlt,?_,rfl,?_⟩,by simp only[aI];omega⟩
   · rw[BB hc];simp only[oR]
   · rw[aD _ _ _ _ hjx,aD _ _ _ _ hjx,hH]
 · have hge:=cE hm hge
   subst hge;simp only[go_sem,h1,h2,h6,h7,h5,h8,h9];clear h1 h2 h8 h9;refine bD (fun ρ' H'=>ρ' 6=str (fZ m)∧ρ' 7=.op i 0 0∧H' i=some (qX a)∧∃j',ρ' 5=.os j'∧j'≠i∧H' j'=some (aY (es2++opt ((n.arcs.take m).any (oR a)) ⟨6,fZ m⟩))) ?_ fun K hK=>aA (fun hb=>?_) (fun hb=>?_)
   rotate_left
   · simp only[go_sem,h6,h7,h5]
     refine bC hH ⟨rfl,rfl⟩ (by simp only[go_sem]) (by simp only[List.length_map,List.length_cons,List.length_nil];omega) (fun j' hj'=>?_);simp only[go_sem];refine hK _ _ ⟨by simp only[go_sem,h6],by simp only[go_sem,h7],dE hi hji hj',j',by simp only[go_sem],(aO hi hj').symm,?_⟩;rw[gN (show((n.arcs.take m).any (oR a))=true from hb)];exact dV (l':=[⟨6,fZ m⟩]) rfl
   · simp only[go_sem]
     refine hK _ _ ⟨by simp only[go_sem,h6],by simp only[go_sem,h7],hi,j,by simp only[go_sem,h5],hji,?_⟩;rw[gO (show((n.arcs.take m).any (oR a))=false from hb),List.append_nil,hH]
   clear hH h6 h7 h5;rintro ρ H ⟨h6,h7,hi,j,h5,hji,hH⟩;generalize hes3:es2++opt ((n.arcs.take m).any (oR a)) (⟨6,fZ m⟩:Fault)=es3 at hH;have hln3:es3.length≤es2.length+1:=by rw[←hes3,List.length_append];have:=bW ((n.arcs.take m).any (oR a)) (⟨6,fZ m⟩:Fault);omega
   simp only[go_sem,h6,h7,h5,hi];refine PC.use (Oj a.travel hst.1) ?_;simp only[go_sem];have htl:=AD a.travel;have htr:(gZ (lE n.arcs m).travel).map (fun f=>(⟨f.err,fZ m⟩:Fault))=(gZ a.travel).map (fun f=>⟨f.err,fZ m⟩):=by rw[lO ha]
   generalize gZ a.travel=tr at htl htr;refine⟨fun ρ H=>∃q:Nat,q≤tr.length∧ρ 6=str (fZ m)∧ρ 7=.op i 0 0∧ρ 11=.sl (tr.map fG)∧ρ 12=int q∧H i=some (qX a)∧∃j,ρ 5=.os j∧j≠i∧H j=some (aY (es3++(tr.take q).map fun f=>⟨f.err,fZ m⟩)),fun ρ _=>tr.length-bR (ρ 12),
     ⟨0,Nat.zero_le _,by simp only[go_sem,h6],by simp only[go_sem,h7],by simp only[go_sem],by simp only[go_sem];rfl,hi,j,by simp only[go_sem,h5],hji,by simpa using hH⟩,?_⟩
   clear h6 h7 h5 hi hH hji;rintro ρ H ⟨q,hq,h6,h7,h11,h12,hi,j,h5,hji,hH⟩;simp only[go_sem,h6,h7,h5,h11,h12];refine aA (fun hlt=>?_) (fun hge=>?_)
   · have hlt:=cA hlt
     obtain⟨f,hf⟩:=bA hlt;have b2:=inB hlt;simp only[go_sem,h6,h7,h5,h11,h12,b2,aH hf];refine bC hH ⟨rfl,rfl⟩ (by simp only[go_sem]) (by simp only[List.length_map,List.length_append,List.length_take,List.length_cons,List.length_nil];omega) (fun j' hj'=>?_);simp only[go_sem,h6,h7,h5,h11,h12,bG (show q≤4611686018427387904 by omega)];refine⟨⟨q+1,hlt,rfl,dE hi hji hj',j',rfl,(aO hi hj').symm,?_⟩,by simp only[aI];omega⟩;rw[xH hf,←List.append_assoc];exact dV (l':=[⟨f.err,fZ m⟩]) rfl
   · have hge:=cE hq hge
     subst hge;simp only[go_sem,h6,h7,h5,h11,h12,hi];clear h11 h12;rw[List.take_length]at hH;generalize hes4:es3++tr.map (fun f=>(⟨f.err,fZ m⟩:Fault))=es4 at hH;have hln4:es4.length=es3.length+tr.length:=by rw[←hes4,List.length_append,List.length_map]
     refine bD (fun ρ' H'=>ρ' 6=str (fZ m)∧ρ' 7=.op i 0 0∧H' i=some (qX a)∧∃j',ρ' 5=.os j'∧j'≠i∧H' j'=some (aY (es4++opt (decide ((a.slow.length:Int)>16)) ⟨4,fZ m⟩))) ?_ fun K hK=>aA (fun hb=>?_) (fun hb=>?_)
     rotate_left
     · simp only[go_sem,h6,h7,h5]
       refine bC hH ⟨rfl,rfl⟩ (by simp only[go_sem]) (by simp only[List.length_map,List.length_cons,List.length_nil];omega) (fun j' hj'=>?_);simp only[go_sem];refine hK _ _ ⟨by simp only[go_sem,h6],by simp only[go_sem,h7],dE hi hji hj',j',by simp only[go_sem],(aO hi hj').symm,?_⟩;rw[gN (show(decide ((a.slow.length:Int)>16))=true from hb)];exact dV (l':=[⟨4,fZ m⟩]) rfl
     · simp only[go_sem]
       refine hK _ _ ⟨by simp only[go_sem,h6],by simp only[go_sem,h7],hi,j,by simp only[go_sem,h5],hji,?_⟩;rw[gO (show(decide ((a.slow.length:Int)>16))=false from hb),List.append_nil,hH]
     clear hH h6 h7 h5;rintro ρ H ⟨h6,h7,hi,j,h5,hji,hH⟩;generalize hes5:es4++opt (decide ((a.slow.length:Int)>16)) (⟨4,fZ m⟩:Fault)=es5 at hH;have hln5:es5.length≤es4.length+1:=by rw[←hes5,List.length_append];have:=bW (decide ((a.slow.length:Int)>16)) (⟨4,fZ m⟩:Fault);omega
     simp only[go_sem,h6,h7,h5,hi];refine⟨fun ρ H=>∃k:Nat,k≤a.slow.length∧ρ 6=str (fZ m)∧ρ 7=.op i 0 0∧ρ 13=int k∧H i=some (qX a)∧∃j,ρ 5=.os j∧j≠i∧H j=some (aY (es5++(List.range k).flatMap fun x=>opt (mB a.slow x) ⟨2,fZ m⟩)),fun ρ _=>a.slow.length-bR (ρ 13),
       ⟨0,Nat.zero_le _,by simp only[go_sem,h6],by simp only[go_sem,h7],by simp only[go_sem];rfl,hi,j,by simp only[go_sem,h5],hji,by simpa using hH⟩,?_⟩
     clear h6 h7 h5 hi hH hji;rintro ρ H ⟨k,hk,h6,h7,h13,hi,j,h5,hji,hH⟩;generalize hes:es5++(List.range k).flatMap (fun x=>opt (mB a.slow x) (⟨2,fZ m⟩:Fault))=es at hH;have hlen:es.length≤es5.length+k:=by
       have:=dT (f:=fun x=>opt (mB a.slow x) (⟨2,fZ m⟩:Fault)) (c:=1) (fun x=>bW _ _) (List.range k);rw[←hes,List.length_append];rw[List.length_range]at this;omega
     simp only[go_sem,h6,h7,h5,h13,hi];refine aA (fun hlt=>?_) (fun hge=>?_)
     · have hlt:=cA hlt
       have hkk:k≤4611686018427387904:=by omega
       obtain⟨p,hp⟩:=bA hlt;obtain⟨r,hr⟩:=bA (show k-1<a.slow.length by omega);have b2:=inB hlt;simp only[go_sem,h6,h7,h5,h13,hi,b2,aH hp];refine aN fun x hx=>?_
       simp only[go_sem];refine aT (aB _ _ _) (by simp[fK]) ?_;have hix:=aO hi hx;have hjx:=aO hH hx;simp only[go_sem];refine gI (by rfl) (by kernel_rfl) ?_;simp only[go_sem,h6,h7,h5,h13,aD _ _ _ _ hix,hi];refine⟨_,(Ru _).q rfl,?_⟩;simp only[go_sem,h6,h7,h5,h13,aD _ _ _ _ hix,hi];refine⟨_,fun _=>(Ru _).q rfl,?_⟩;simp only[go_sem,h6,h7,h5,h13,aD _ _ _ _ hix,hi,R9 hkk,aH hr];have hi2:aJ (aJ H x (some ⟨136,2,[[int 0,int 0]]⟩)) x (some ⟨136,2,[bS p]⟩) i=some (qX a):=by rw[aD _ _ _ _ hix,aD _ _ _ _ hix,hi]
       have hH2:aJ (aJ H x (some ⟨136,2,[[int 0,int 0]]⟩)) x (some ⟨136,2,[bS p]⟩) j=some (aY es):=by rw[aD _ _ _ _ hjx,aD _ _ _ _ hjx,hH]
       have hbs:mB a.slow k=(!inR p.t 0 4096|| !inR p.a 0 4096||decide ((k:Int)>0)&&decide (p.t≤r.t)):=by rw[mB,dC hp,dC hr]
       have hfl:es5++(List.range (k+1)).flatMap (fun x=>opt (mB a.slow x) (⟨2,fZ m⟩:Fault))=es++opt (mB a.slow k) ⟨2,fZ m⟩:=by rw[gF,←List.append_assoc,hes]
       refine⟨fun h=>by
         have:(k:Int)>0:=by simpa using h.2
         rw[lX hkk];omega,fW (fun ρ' H'=>ρ' 6=str (fZ m)∧ρ' 7=.op i 0 0∧ρ' 13=int k∧H' i=some (qX a)∧∃j,ρ' 5=.os j∧j≠i∧H' j=some (aY (es++opt (mB a.slow k) ⟨2,fZ m⟩))) ?_ fun K hK _ _=>aA (fun hb=>?_) (fun hb=>?_)⟩
       · clear h6 h7 h5 h13
         rintro ρ H ⟨h6,h7,h13,hi,j,h5,hji,hH⟩;simp only[go_sem,h6,h7,h5,h13,bG hkk];exact⟨⟨k+1,hlt,rfl,hi,j,rfl,hji,by rw[hfl];exact hH⟩,by simp only[aI];omega⟩
       · simp only[go_sem,h6,h7,h5,h13]
         refine bC hH2 ⟨rfl,rfl⟩ (by simp only[go_sem]) (by simp only[List.length_map,List.length_cons,List.length_nil];omega) (fun j' hj'=>?_);simp only[go_sem];refine hK _ _ ⟨by simp only[go_sem,h6],by simp only[go_sem,h7],by simp only[go_sem,h13],dE hi2 hji hj',j',by simp only[go_sem],(aO hi2 hj').symm,?_⟩;rw[gN (hbs.trans hb)];exact dV (l':=[⟨2,fZ m⟩]) rfl
       · simp only[go_sem]
         refine hK _ _ ⟨by simp only[go_sem,h6],by simp only[go_sem,h7],by simp only[go_sem,h13],hi2,j,by simp only[go_sem,h5],hji,?_⟩;rw[gO (hbs.trans hb),List.append_nil,hH2]
     · have hge:=cE hk hge
       subst hge;simp only[go_sem,h5];refine⟨_,rfl,?_⟩;rw[hH,←hes,←hes5,←hes4,←htr,←hes3,←hes2,←hes1,←hes0,A7,lO ha]
theorem CK(n:Network)(k:Nat)(ht:(lE n.arcs k).travel.length≤1048576)(hs:(lE n.arcs k).slow.length≤1048576):(A7 n k).length≤3145740:=by
 have h1:=bW (sX n.places.length (lE n.arcs k)) (⟨11,fZ k⟩:Fault);have h2:=bW (uS (lE n.arcs k)) (⟨2,fZ k⟩:Fault);have h3:=bW ((n.arcs.take k).any (oR (lE n.arcs k))) (⟨6,fZ k⟩:Fault);have h4:=AD (lE n.arcs k).travel;have h5:=bW (decide (((lE n.arcs k).slow.length:Int)>16)) (⟨4,fZ k⟩:Fault);have h6:=dT (f:=fun i=>opt (mB (lE n.arcs k).slow i) (⟨2,fZ k⟩:Fault)) (c:=1) (fun x=>bW _ _) (List.range (lE n.arcs k).slow.length);rw[List.length_range]at h6;simp only[A7,List.length_append,List.length_map,List.length_nil];omega
theorem AT{α β:Type}{f:α→List β}{c:Nat}:∀l:List α,(∀x∈l,(f x).length≤c)→(l.flatMap f).length≤c*l.length
 | [],_=>by simp
 | x::r,h=>by
   have h1:=h x (by simp);have h2:=AT r fun y hy=>h y (by simp[hy])
   simp only[List.flatMap_cons,List.length_append,List.length_cons,Nat.mul_add,Nat.mul_one];omega
def De(n:Network):List Fault:=sH n.places++opt (decide ((n.arcs.length:Int)>1024)) ⟨4,⟨#[97,114,99,115]⟩⟩++(List.range n.arcs.length).flatMap (A7 n)
theorem AB(l:List ByteArray):(sH l).length≤l.length+1:=by
 have:=dT (MB l) (List.range l.length);have h2:=bW (decide ((l.length:Int)>24)) (⟨4,⟨#[112,108,97,99,101,115]⟩⟩:Fault);rw[sH,List.length_append];rw[List.length_range]at this;omega
theorem afK(n:Network)(hp:n.places.length≤1048576)(hps:∀s∈n.places,s.size≤1048576)(hl:n.arcs.length≤1048576)(hs:∀a∈n.arcs,a.travel.length≤1048576∧a.slow.length≤1048576):
   NC Tryz.prog 30 [.agg (aP n)] (aY (De n)) .os:=by
 have hal:∀k,(A7 n k).length≤3145740:=fun k=>by
   rcases Nat.lt_or_ge k n.arcs.length with h|h
   · obtain⟨a,ha⟩:=bA h
     have hm:=hs a (iQ ha);exact CK n k (by rw[lO ha];exact hm.1) (by rw[lO ha];exact hm.2)
   · have:lE n.arcs k=⟨0,0,0,0,[],[]⟩:=by simp[lE,List.getD,List.getElem?_eq_none h]
     exact CK n k (by rw[this];simp) (by rw[this];simp)
 have hpl:=AB n.places;refine NC.body (c:=Tryz.f30.body.getD .skip) (fun t=>t == 3) mixed Tryz.func30 rfl (by kernel_rfl) ?_;unfold Tryz.f30;simp only[Option.getD_some];simp only[go_sem];refine NC.use (xV n hp hps) fun j hj=>?_
 simp only[go_sem];refine mX (fun ρ' H'=>ρ' 1=.rp (aP n) 0∧∃j',ρ' 3=.os j'∧H' j'=some (aY (sH n.places))) ⟨by simp only[go_sem],j,by simp only[go_sem],aB _ _ _⟩ ?_;clear hj;rintro ρ H ⟨h1,j,h3,hH⟩;generalize hes0:sH n.places=es0 at hH hpl;refine bD (fun ρ' H'=>ρ' 1=.rp (aP n) 0∧∃j',ρ' 3=.os j'∧H' j'=some (aY (es0++opt (decide ((n.arcs.length:Int)>1024)) ⟨4,⟨#[97,114,99,115]⟩⟩))) ?_ fun K hK=>aA (fun hb=>?_) (fun hb=>?_)
 rotate_left
 · simp only[go_sem,h1,h3]
   refine bC hH ⟨rfl,rfl⟩ (by simp only[go_sem]) (by simp only[List.length_map,List.length_cons,List.length_nil];omega) (fun j' hj'=>?_);simp only[go_sem];refine hK _ _ ⟨by simp only[go_sem,h1],j',by simp only[go_sem],?_⟩;rw[gN (show(decide ((n.arcs.length:Int)>1024))=true from hb)];exact dV (l':=[⟨4,⟨#[97,114,99,115]⟩⟩]) rfl
 · simp only[go_sem]
   refine hK _ _ ⟨by simp only[go_sem,h1],j,by simp only[go_sem,h3],?_⟩;rw[gO (show(decide ((n.arcs.length:Int)>1024))=false from hb),List.append_nil,hH]
 clear hH h1 h3;rintro ρ H ⟨h1,j,h3,hH⟩;generalize hes1:es0++opt (decide ((n.arcs.length:Int)>1024)) (⟨4,⟨#[97,114,99,115]⟩⟩:Fault)=es1 at hH;have hln1:es1.length≤es0.length+1:=by rw[←hes1,List.length_append];have:=bW (decide ((n.arcs.length:Int)>1024)) (⟨4,⟨#[97,114,99,115]⟩⟩:Fault);omega
 simp only[go_sem,h1,h3];refine⟨fun ρ H=>∃k:Nat,k≤n.arcs.length∧ρ 1=.rp (aP n) 0∧ρ 4=int k∧∃j,ρ 3=.os j∧H j=some (aY (es1++(List.range k).flatMap (A7 n))),fun ρ _=>n.arcs.length-bR (ρ 4),⟨0,Nat.zero_le _,by simp only[go_sem,h1],by simp only[go_sem];rfl,j,by simp only[go_sem,h3],by simpa using hH⟩,?_⟩;clear hH h1 h3;rintro ρ H ⟨k,hk,h1,h4,j,h3,hH⟩;generalize hes:es1++(List.range k).flatMap (A7 n)=es at hH;have hlen:es.length≤es1.length+3145740*k:=by
   have:=dT hal (List.range k);rw[←hes,List.length_append];rw[List.length_range]at this;omega
 simp only[go_sem,h1,h3,h4];refine aA (fun hlt=>?_) (fun hge=>?_)
 · have hlt:=cA hlt
   simp only[go_sem,h1,h3,h4];refine NC.use (aeO n k hlt hp hl hs) fun i hi=>?_
   simp only[go_sem];have:=hal k;refine xO (jN hH hi) (aB _ _ _) ⟨rfl,rfl⟩ (nA _) (by simp only[List.length_map];omega) (fun j' hj'=>?_);simp only[go_sem,h1,h3,h4,bG (show k≤4611686018427387904 by omega)];refine⟨⟨k+1,hlt,rfl,j',rfl,?_⟩,by simp only[aI];omega⟩;rw[gF,←List.append_assoc,hes];exact dV rfl
 · have hge:=cE hk hge
   subst hge;simp only[go_sem,h3];exact⟨_,rfl,by rw[hH,←hes,←hes1,←hes0];rfl⟩
def small(l:List Fault):Prop:=∀f∈l,f.at_.size≤4194304
theorem N1:small []:=by simp[small]
theorem gP{a b:List Fault}(ha:small a)(hb:small b):small (a++b):=fun f hf=>(List.mem_append.1 hf).elim (ha f) (hb f)
theorem gC{b:Bool}{f:Fault}(h:f.at_.size≤4194304):small (opt b f):=by
 cases b
 · simp[small,opt]
 · intro g hg;simp[opt]at hg;subst hg;exact h
theorem nJ{α:Type}{F:α→List Fault}{l:List α}(h:∀x∈l,small (F x)):small (l.flatMap F):=fun f hf=>by
 obtain⟨x,hx,hf⟩:=List.mem_flatMap.1 hf;exact h x hx f hf
theorem zR{α:Type}{F:α→Fault}{l:List α}(h:∀x∈l,(F x).at_.size≤4194304):small (l.map F):=fun f hf=>by
 obtain⟨x,hx,rfl⟩:=List.mem_map.1 hf;exact h x hx
theorem rI{i n:Nat}(h:i∈List.range n):i<n:=List.mem_range.1 h
theorem Pu(i:Nat):(fZ i).size≤i+5:=by
 have:=lP i;unfold fZ;rw[ByteArray.size_append];have:(⟨#[97,114,99,32]⟩:ByteArray).size=4:=rfl;omega
theorem KR(w:ByteArray)(i:Nat):(tW w i).size≤w.size+i+2:=by
 have:=lP i;unfold tW;rw[ByteArray.size_append,ByteArray.size_append];have:(⟨#[32]⟩:ByteArray).size=1:=rfl;omega
theorem FN(l:List ByteArray)(h:l.length≤1048576):small (sH l):=gP (gC (by decide)) (nJ fun i hi=>by
 have:=rI hi;have:=Js i;unfold fC;split
 · exact gC (b:=true) (by show(pW i).size≤_;omega)
 · exact gC (by show(pW i).size≤_;omega))
theorem O9(n:Network)(hp:n.places.length≤1048576)(hl:n.arcs.length≤1048576):small (De n):=by
 refine gP (gP (FN _ hp) (gC (by decide))) (nJ fun i hi=>?_);have:=rI hi;have h:(fZ i).size≤4194304:=by have:=Pu i;omega
 exact gP (gP (gP (gP (gP (gP N1 (gC h)) (gC h)) (gC h)) (zR fun _ _=>h)) (gC h)) (nJ fun _ _=>gC h)
theorem HO(n:Network)(l:List VType)(hl:l.length≤1048576):small (pG n l):=
 gP (gC (by decide)) (nJ fun i hi=>zR fun _ _=>by have:=rI hi;have:=lP i;show(iP i).size≤_;omega)
theorem FU(n:Network)(d T:Int)(l:List Order)(hl:l.length≤1048576):small (nN n d T l):=
 gP (gC (by decide)) (nJ fun i hi=>zR fun _ _=>by have:=rI hi;have:=lP i;show(iP i).size≤_;omega)
theorem AL(N:Int)(l:List Pair)(w:ByteArray)(b:Bool)(hl:l.length≤1048576)(hw:w.size≤100):small (qW N l w b):=gP (gC (by show w.size≤_;omega)) (nJ fun i hi=>by
 have:=rI hi;have:=KR w i;unfold fJ;split
 · exact gC (b:=true) (by show(tW w i).size≤_;omega)
 · exact gC (by show(tW w i).size≤_;omega))
theorem Lg(n:Network)(l:List VType):(pG n l).length≤9*l.length+1:=by
 have:=dT (f:=gH n l) (c:=9) (fun x=>by unfold gH;rw[List.length_map];exact sC _ _ _ _) (List.range l.length);have h2:=bW (!inR l.length 1 6) (⟨4,ByteArray.empty⟩:Fault);rw[pG,List.length_append];rw[List.length_range]at this;omega
theorem Hj(n:Network)(d T:Int)(l:List Order):(nN n d T l).length≤9*l.length+1:=by
 have:=dT (f:=fD n d T l) (c:=9) (fun x=>by unfold fD;rw[List.length_map];exact qY _ _ _ _ _ _) (List.range l.length);have h2:=bW (decide ((l.length:Int)>10)) (⟨4,ByteArray.empty⟩:Fault);rw[nN,List.length_append];rw[List.length_range]at this;omega
structure InB(x:Instance):Prop where
 places:x.net.places.length≤1048576
 place:∀s∈x.net.places,s.size≤1048576
 arcs:x.net.arcs.length≤1048576
 arc:∀a∈x.net.arcs,a.travel.length≤1048576∧a.slow.length≤1048576
 types:x.types.length≤1048576
 type:∀t∈x.types,t.name.size≤1048576∧t.cap.length≤1048576
 orders:x.orders.length≤1048576
 order:∀t∈x.orders,t.name.size≤1048576∧t.load.length≤1048576
 apart:x.apart.length≤1048576
 before:x.before.length≤1048576
def zS(x:Instance):List Fault:=qW x.orders.length x.apart ⟨#[97,112,97,114,116]⟩ true++qW x.orders.length x.before ⟨#[98,101,102,111,114,101]⟩ false
def jE(x:Instance):List Fault:=(De x.net).map (jT ⟨#[110,101,116]⟩)++(pG x.net x.types).map (jT ⟨#[116,121,112,101,115]⟩) ++
 (nN x.net (lD x.types) x.types.length x.orders).map (jT ⟨#[111,114,100,101,114,115]⟩)++(zS x).map (jT ⟨#[114,117,108,101,115]⟩)
theorem Rv(x:Instance)(h:InB x):(De x.net).length≤3300000000000:=by
 have h1:=AB x.net.places;have h2:=bW (decide ((x.net.arcs.length:Int)>1024)) (⟨4,⟨#[97,114,99,115]⟩⟩:Fault);have h3:=AT (f:=A7 x.net) (c:=3145740) (List.range x.net.arcs.length) fun k hk=>by
   obtain⟨a,ha⟩:=bA (rI hk);have hm:=h.arc a (iQ ha);exact CK x.net k (by rw[lO ha];exact hm.1) (by rw[lO ha];exact hm.2)
 have h4:=h.places;have h5:=h.arcs;rw[List.length_range]at h3;simp only[De,List.length_append];omega
theorem Ub(x:Instance)(h:InB x):NC Tryz.prog 9 [.agg (aQ x)] (aY (jE x)) .os:=by
 have c1:PC Tryz.prog 30 [.agg (aP x.net)] (.sl ((De x.net).map fG)):=NC.pc (afK x.net h.places h.place h.arcs h.arc);have c2:PC Tryz.prog 31 [.agg (aP x.net),.sl (x.types.map bE)] (.sl ((pG x.net x.types).map fG)):=NC.pc (UO x.net x.types h.types h.type h.places);have c3:PC Tryz.prog 32 [.agg (aP x.net),int (lD x.types),int x.types.length,.sl (x.orders.map aX)] (.sl ((nN x.net (lD x.types) x.types.length x.orders).map fG)):=NC.pc (P0 x.net _ _ x.orders h.orders h.order h.places);have c4:PC Tryz.prog 34 [int x.orders.length,.sl (x.apart.map fL),.sl (x.before.map fL)] (.sl ((zS x).map fG)):=NC.pc (F1 x.orders.length x.apart x.before h.apart h.before);have l1:=Rv x h;have l2:=Lg x.net x.types;have l3:=Hj x.net (lD x.types) x.types.length x.orders;have l4:(zS x).length≤2097154:=by
   have a1:=tL x.orders.length x.apart ⟨#[97,112,97,114,116]⟩ true;have a2:=tL x.orders.length x.before ⟨#[98,101,102,111,114,101]⟩ false;have:=h.apart;have:=h.before;rw[zS,List.length_append];omega
 have s1:=O9 x.net h.places h.arcs;have s2:=HO x.net x.types h.types;have s3:=FU x.net (lD x.types) x.types.length x.orders h.orders;have s4:small (zS x):=gP (AL _ _ _ _ h.apart (by decide)) (AL _ _ _ _ h.before (by decide));have ht:=h.types;have ho:=h.orders;refine NC.body (c:=Tryz.f9.body.getD .skip) (fun t=>t == 27) mixed Tryz.func9 rfl (by kernel_rfl) ?_;unfold Tryz.f9;simp only[Option.getD_some];simp only[go_sem];refine PC.use c1 ?_;simp only[go_sem];refine NC.use (Bl ⟨#[110,101,116]⟩ _ (by decide) (by omega) fun f hf=>Nat.le_trans (s1 f hf) (by decide)) fun j hj=>?_
 simp only[go_sem];refine PC.use c2 ?_;simp only[go_sem];refine NC.use (Bl ⟨#[116,121,112,101,115]⟩ _ (by decide) (by omega) fun f hf=>Nat.le_trans (s2 f hf) (by decide)) fun i hi=>?_
 simp only[go_sem];refine xO (jN (aB _ _ _) hi) (aB _ _ _) ⟨rfl,rfl⟩ (nA _) (by simp only[List.length_map];omega) (fun j' hj'=>?_);simp only[go_sem];refine GY (by kernel_rfl) ?_;simp only[go_sem];refine⟨_,(SA x.types).q rfl,?_⟩;simp only[go_sem];have hH:=dV (e:=128) (sz:=2) (enc:=fG) (H:=aJ (aJ (aJ bU j (some (aY ((De x.net).map (jT ⟨#[110,101,116]⟩))))) i (some (aY ((pG x.net x.types).map (jT ⟨#[116,121,112,101,115]⟩))))) j none) (k:=j') (l:=(De x.net).map (jT ⟨#[110,101,116]⟩)) (l':=(pG x.net x.types).map (jT ⟨#[116,121,112,101,115]⟩)) rfl;generalize aJ (aJ (aJ (aJ bU j _) i _) j none) j' _=H at hH ⊢;generalize hes:(De x.net).map (jT ⟨#[110,101,116]⟩)++(pG x.net x.types).map (jT ⟨#[116,121,112,101,115]⟩)=es at hH;have hel:es.length≤3300000000000+9*x.types.length+1:=by rw[←hes,List.length_append,List.length_map,List.length_map];omega
 clear hi hj hj';refine PC.use c3 ?_;simp only[go_sem];refine NC.use (Bl ⟨#[111,114,100,101,114,115]⟩ _ (by decide) (by omega) fun f hf=>Nat.le_trans (s3 f hf) (by decide)) fun i hi=>?_
 simp only[go_sem];refine xO (jN hH hi) (aB _ _ _) ⟨rfl,rfl⟩ (nA _) (by simp only[List.length_map];omega) (fun k hk=>?_);simp only[go_sem];have hH2:=dV (e:=128) (sz:=2) (enc:=fG) (H:=aJ (aJ H i (some (aY ((nN x.net (lD x.types) x.types.length x.orders).map (jT ⟨#[111,114,100,101,114,115]⟩))))) j' none) (k:=k) (l:=es) (l':=(nN x.net (lD x.types) x.types.length x.orders).map (jT ⟨#[111,114,100,101,114,115]⟩)) rfl;generalize aJ (aJ (aJ H i _) j' none) k _=H2 at hH2 ⊢;clear hi hk;refine PC.use c4 ?_;simp only[go_sem];refine NC.use (Bl ⟨#[114,117,108,101,115]⟩ _ (by decide) (by omega) fun f hf=>Nat.le_trans (s4 f hf) (by decide)) fun q hq=>?_
 simp only[go_sem];refine xO (jN hH2 hq) (aB _ _ _) ⟨rfl,rfl⟩ (nA _) (by simp only[List.length_map,List.length_append];omega) (fun m hm=>?_);simp only[go_sem];refine⟨m,rfl,?_⟩;rw[jE,hes];exact dV rfl
end Go.Proofs.YtdlijlecpopadaaGreatDoor
