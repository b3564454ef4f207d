/- Texts joined by a program: RefI. -/
import Derived.Test.YtdlijlecpopadaaGreatDoorZv20
set_option linter.unusedSimpArgs false
set_option linter.unusedVariables false
set_option maxRecDepth 100000
namespace Go.Proofs.YtdlijlecpopadaaGreatDoor
open Go.Aw Go.Aw.D Go.Proofs Ty
def pAt(l:List Pair)(i:Nat):Pair:=l.getD i ⟨0,0⟩
theorem Fw{l:List Pair}{k:Nat}{p:Pair}(h:l[k]?=some p):pAt l k=p:=by simp[pAt,List.getD,h]
def tY(w:ByteArray)(k:Nat):ByteArray:=w++⟨#[32]⟩++iR k
def yM(N:Int)(p:Pair):Bool:=decide (p.a<0)||decide (p.a≥N)||decide (p.b<0)||decide (p.b≥N)||p.a == p.b
def tT(b:Bool)(p q:Pair):Bool:=(q.a == p.a&&q.b == p.b)||(b&&q.a == p.b&&q.b == p.a)
def fK(N:Int)(l:List Pair)(w:ByteArray)(b:Bool)(k:Nat):List Fault:=match yM N (pAt l k)with
 | true=>[⟨2,tY w k⟩]
 | false=>opt ((l.take k).any (tT b (pAt l k))) ⟨6,tY w k⟩
theorem uN(N:Int)(l:List Pair)(w:ByteArray)(b:Bool)(k:Nat):(fK N l w b k).length≤1:=by
 unfold fK;split
 · simp
 · exact bW _ _
def qU(N:Int)(l:List Pair)(w:ByteArray)(b:Bool):List Fault:=opt (decide ((l.length:Int)>16)) ⟨4,w⟩++(List.range l.length).flatMap (fK N l w b)
theorem I2(N:Int)(l:List Pair)(w:ByteArray)(b:Bool)(hl:l.length≤1048576)(hw:w.size≤1048576):
   NC Tryz.prog 74 [int N,.sl (l.map fO),str w,boo b] (aY (qU N l w b)) .os:=by
 refine NC.body (c:=Tryz.f74.body.getD .skip) (fun t=>t == 9) mixed Tryz.func74 rfl (by kernel_rfl) ?_;unfold Tryz.f74;simp only[Option.getD_some];simp only[go_sem];refine aN fun j hj=>?_
 simp only[go_sem];refine mZ (fun ρ' H'=>ρ' 0=int N∧ρ' 1=.sl (l.map fO)∧ρ' 2=str w∧ρ' 3=boo b∧∃j',ρ' 9=.os j'∧H' j'=some (aY [])) ⟨by simp only[go_sem],by simp only[go_sem],by simp only[go_sem],by simp only[go_sem],_,by simp only[go_sem],aB _ _ _⟩ ?_;rintro ρ H ⟨h0,h1,h2,h3,j,h9,hH⟩;generalize hes0:([]:List Fault)=es0 at hH;have hln0:es0.length≤0:=by rw[←hes0];exact Nat.le_refl _
 refine bD (fun ρ' H'=>ρ' 0=int N∧ρ' 1=.sl (l.map fO)∧ρ' 2=str w∧ρ' 3=boo b∧∃j',ρ' 9=.os j'∧H' j'=some (aY (es0++opt (decide ((l.length:Int)>16)) ⟨4,w⟩))) ?_ fun K hK=>aA (fun hb=>?_) (fun hb=>?_)
 rotate_left
 · simp only[go_sem,h0,h1,h2,h3,h9]
   refine bA hH ⟨rfl,rfl⟩ (by simp only[go_sem]) (by simp only[List.length_map,List.length_cons,List.length_nil];omega) (fun j' hj'=>?_);simp only[go_sem];refine hK _ _ ⟨by simp only[go_sem,h0],by simp only[go_sem,h1],by simp only[go_sem,h2],by simp only[go_sem,h3],j',by simp only[go_sem],?_⟩;rw[gP (show(decide ((l.length:Int)>16))=true from hb)];exact dT (l':=[⟨4,w⟩]) rfl
 · simp only[go_sem]
   refine hK _ _ ⟨by simp only[go_sem,h0],by simp only[go_sem,h1],by simp only[go_sem,h2],by simp only[go_sem,h3],j,by simp only[go_sem,h9],?_⟩;rw[gO (show(decide ((l.length:Int)>16))=false from hb),List.append_nil,hH]
 clear hH h0 h1 h2 h3 h9;rintro ρ H ⟨h0,h1,h2,h3,j,h9,hH⟩;generalize hes1:es0++opt (decide ((l.length:Int)>16)) (⟨4,w⟩:Fault)=es1 at hH;have hln1:es1.length≤es0.length+1:=by rw[←hes1,List.length_append];have:=bW (decide ((l.length:Int)>16)) (⟨4,w⟩:Fault);omega
 simp only[go_sem,h0,h1,h2,h3,h9];refine⟨fun ρ H=>∃k:Nat,k≤l.length∧ρ 0=int N∧ρ 1=.sl (l.map fO)∧ρ 2=str w∧ρ 3=boo b∧ρ 10=int k∧∃j,ρ 9=.os j∧H j=some (aY (es1++(List.range k).flatMap (fK N l w b))),fun ρ _=>l.length-bQ (ρ 10),
   ⟨0,Nat.zero_le _,by simp only[go_sem,h0],by simp only[go_sem,h1],by simp only[go_sem,h2],by simp only[go_sem,h3],by simp only[go_sem];rfl,j,by simp only[go_sem,h9],by simpa using hH⟩,?_⟩
 clear hH h0 h1 h2 h3 h9 hj;rintro ρ H ⟨k,hk,h0,h1,h2,h3,h10,j,h9,hH⟩;generalize hes:es1++(List.range k).flatMap (fK N l w b)=es at hH;have hlen:es.length≤k+1:=by
   have:=dV (uN N l w b) (List.range k);rw[←hes,List.length_append];rw[List.length_range]at this;omega
 simp only[go_sem,h0,h1,h2,h3,h9,h10];refine aA (fun hlt=>?_) (fun hge=>?_)
 · have hlt:=cA hlt
   have hkk:k≤4611686018427387904:=by omega
   obtain⟨p,hp⟩:=bC hlt;have b1:=inB hlt;have hds:=lR k;have h32:(#[32]:Array UInt8).size=1:=rfl;have hfl:es1++(List.range (k+1)).flatMap (fK N l w b)=es++fK N l w b k:=by rw[gG,←List.append_assoc,hes]
   simp only[go_sem,h0,h1,h2,h3,h9,h10,b1,aH hp];refine⟨by omega,by omega,by rw[sP];omega,?_⟩;refine PC.use (Ub _ (by omega)) ?_;simp only[go_sem,h0,h1,h2,h3,h9,h10];refine⟨by rw[sP];omega,?_⟩;refine aA (fun hb=>?_) (fun hb=>?_)
   · simp only[go_sem,h0,h1,h2,h3,h9,h10]
     refine bA hH ⟨rfl,rfl⟩ (by simp only[go_sem]) (by simp only[List.length_map,List.length_cons,List.length_nil];omega) (fun j' hj'=>?_);simp only[go_sem,h0,h1,h2,h3,h10,bG hkk];refine⟨⟨k+1,hlt,rfl,j',rfl,?_⟩,by simp only[aI];omega⟩;have hn:yM N (pAt l k)=true:=by rw[Fw hp];exact hb
     rw[hfl,fK,hn];exact dT (l':=[⟨2,tY w k⟩]) rfl
   · simp only[go_sem,h0,h1,h2,h3,h9,h10]
     have hn:yM N (pAt l k)=false:=by rw[Fw hp];exact hb
     refine⟨fun ρ H'=>∃m:Nat,m≤k∧ρ 0=int N∧ρ 1=.sl (l.map fO)∧ρ 2=str w∧ρ 3=boo b∧ρ 9=.os j∧ρ 10=int k∧ρ 11=int p.a∧ρ 12=int p.b∧ρ 13=str (tY w k)∧ρ 14=boo ((l.take m).any (tT b p))∧ρ 15=int m∧H'=H,fun ρ _=>k-bQ (ρ 15),
       ⟨0,Nat.zero_le _,by simp only[go_sem,h0],by simp only[go_sem,h1],by simp only[go_sem,h2],by simp only[go_sem,h3],by simp only[go_sem,h9],by simp only[go_sem,h10],by simp only[go_sem],by simp only[go_sem],by simp only[go_sem];rfl,by simp only[go_sem];rfl,by simp only[go_sem];rfl,rfl⟩,?_⟩
     clear h0 h1 h2 h3 h9 h10;rintro ρ H' ⟨m,hm,h0,h1,h2,h3,h9,h10,h11,h12,h13,h14,h15,rfl⟩;simp only[go_sem,h0,h1,h2,h3,h9,h10,h11,h12,h13,h14,h15];refine aA (fun hlt2=>?_) (fun hge2=>?_)
     · have hlt2:=cA hlt2
       obtain⟨q,hq⟩:=bC (show m<l.length by omega);have b2:=inB (show m<l.length by omega);simp only[go_sem,h0,h1,h2,h3,h9,h10,h11,h12,h13,h14,h15,b2,aH hq,bG (show m≤4611686018427387904 by omega)];refine⟨fun _=>by omega,fun _=>by omega,fun _=>by omega,fun _=>by omega,⟨m+1,hlt2,?_,rfl⟩,by simp only[aI];omega⟩;rw[BY hq];simp only[tT,Bool.or_assoc]
     · have hge2:=cF hm hge2
       subst hge2;simp only[go_sem,h14];have hsb:(l.take m).any (tT b (pAt l m))=(l.take m).any (tT b p):=by rw[Fw hp]
       refine fU (fun ρ' H'=>ρ' 0=int N∧ρ' 1=.sl (l.map fO)∧ρ' 2=str w∧ρ' 3=boo b∧ρ' 10=int m∧∃j,ρ' 9=.os j∧H' j=some (aY (es1++(List.range (m+1)).flatMap (fK N l w b)))) ?_ fun K hK _ _=>aA (fun hb=>?_) (fun hb=>?_)
       · clear hH h0 h1 h2 h3 h9 h10
         rintro ρ H ⟨h0,h1,h2,h3,h10,j,h9,hH⟩;simp only[go_sem,h0,h1,h2,h3,h9,h10,bG hkk];exact⟨⟨m+1,hlt,rfl,j,rfl,hH⟩,by simp only[aI];omega⟩
       · simp only[go_sem,h0,h1,h2,h3,h9,h10,h13]
         refine bA hH ⟨rfl,rfl⟩ (by simp only[go_sem]) (by simp only[List.length_map,List.length_cons,List.length_nil];omega) (fun j' hj'=>?_);simp only[go_sem];refine hK _ _ ⟨by simp only[go_sem,h0],by simp only[go_sem,h1],by simp only[go_sem,h2],by simp only[go_sem,h3],by simp only[go_sem,h10],j',by simp only[go_sem],?_⟩;rw[hfl,fK,hn];show _=some (aY (es++opt _ ⟨6,tY w m⟩));rw[gP (hsb.trans hb)];exact dT (l':=[⟨6,tY w m⟩]) rfl
       · simp only[go_sem]
         refine hK _ _ ⟨by simp only[go_sem,h0],by simp only[go_sem,h1],by simp only[go_sem,h2],by simp only[go_sem,h3],by simp only[go_sem,h10],j,by simp only[go_sem,h9],?_⟩;rw[hfl,fK,hn];show _=some (aY (es++opt _ ⟨6,tY w m⟩));rw[gO (hsb.trans hb),List.append_nil,hH]
 · have hge:=cF hk hge
   subst hge;simp only[go_sem,h9];exact⟨_,rfl,by rw[hH,←hes,←hes1,←hes0];rfl⟩
theorem nF:∀l:List Fault,dK 2 (l.map fI)
 | []=>trivial
 | f::r=>⟨rfl,nF r⟩
theorem sB(N:Int)(l:List Pair)(w:ByteArray)(b:Bool):(qU N l w b).length≤l.length+1:=by
 have:=dV (uN N l w b) (List.range l.length);have h2:=bW (decide ((l.length:Int)>16)) (⟨4,w⟩:Fault);rw[qU,List.length_append];rw[List.length_range]at this;omega
theorem GO(N:Int)(ap be:List Pair)(hl:ap.length≤1048576)(hl2:be.length≤1048576):
   NC Tryz.prog 34 [int N,.sl (ap.map fO),.sl (be.map fO)] (aY (qU N ap ⟨#[97,112,97,114,116]⟩ true++qU N be ⟨#[98,101,102,111,114,101]⟩ false)) .os:=by
 refine NC.body (c:=Tryz.f34.body.getD .skip) (fun t=>t == 7) mixed Tryz.func34 rfl (by kernel_rfl) ?_;unfold Tryz.f34;simp only[Option.getD_some];simp only[go_sem];refine NC.use (I2 N ap ⟨#[97,112,97,114,116]⟩ true hl (by decide)) fun j hj=>?_
 simp only[go_sem];refine NC.use (I2 N be ⟨#[98,101,102,111,114,101]⟩ false hl2 (by decide)) fun i hi=>?_
 simp only[go_sem];have l1:=sB N ap ⟨#[97,112,97,114,116]⟩ true;have l2:=sB N be ⟨#[98,101,102,111,114,101]⟩ false;refine yK (jJ (aB _ _ _) hi) (aB _ _ _) ⟨rfl,rfl⟩ (nF _) (by simp only[List.length_map];omega) (fun j' hj'=>?_);simp only[go_sem];exact⟨_,rfl,dT rfl⟩
theorem NC.pc{f:FuncId}{args:List AV}{row:Row}(h:NC Tryz.prog f args row .os):PC Tryz.prog f args (.sl row.es):=
 RC.conv (RC.mono h fun r H' ⟨k,e,hk⟩=>by subst e;exact .row k row row.es hk (ConvE.refl _))
def lA(l:List Arc)(i:Nat):Arc:=l.getD i ⟨0,0,0,0,[],[]⟩
theorem lN{l:List Arc}{k:Nat}{p:Arc}(h:l[k]?=some p):lA l k=p:=by simp[lA,List.getD,h]
def gA(k:Nat):ByteArray:=⟨#[97,114,99,32]⟩++iR k
def sT(N:Int)(a:Arc):Bool:=decide (a.src<0)||decide (a.src≥N)||decide (a.dst<0)||decide (a.dst≥N)
def tW(a:Arc):Bool:=decide (a.profile<0)||decide (a.profile>7)||decide (a.miles<0)||decide (a.miles>10000)||a.src == a.dst
def oN(a b:Arc):Bool:=a.src == b.src&&a.dst == b.dst&&a.profile == b.profile
def mB(l:List Point)(i:Nat):Bool:= !inR (dC l i).t 0 4096|| !inR (dC l i).a 0 4096||decide ((i:Int)>0)&&decide ((dC l i).t≤(dC l (i-1)).t)
def A9(n:Network)(k:Nat):List Fault:=
 []++opt (sT n.places.length (lA n.arcs k)) ⟨11,gA k⟩++opt (tW (lA n.arcs k)) ⟨2,gA k⟩++opt ((n.arcs.take k).any (oN (lA n.arcs k))) ⟨6,gA k⟩
   ++ (hY (lA n.arcs k).travel).map (fun f=>⟨f.err,gA k⟩)++opt (decide (((lA n.arcs k).slow.length:Int)>16)) ⟨4,gA k⟩
   ++ (List.range (lA n.arcs k).slow.length).flatMap fun i=>opt (mB (lA n.arcs k).slow i) ⟨2,gA k⟩
theorem OW(l:List Point)(hl:l.length≤1048576):PC Tryz.prog 131 [.sl (l.map bR)] (.sl ((hY l).map fI)):=NC.pc (Ro l hl)
theorem AC(l:List Point):(hY l).length≤2*l.length+1:=by
 have:=dV (Tn l) (List.range l.length);have h2:=bW (BW l.length 1 16) (⟨4,ByteArray.empty⟩:Fault);rw[hY,List.length_append];rw[List.length_range]at this;omega
theorem aaC(n:Network)(k:Nat)(hk:k<n.arcs.length)(hp:n.places.length≤1048576)(hl:n.arcs.length≤1048576)(hs:∀a∈n.arcs,a.travel.length≤1048576∧a.slow.length≤1048576):
   NC Tryz.prog 69 [.agg (aP n),int k] (aY (A9 n k)) .os:=by
 refine NC.body (c:=Tryz.f69.body.getD .skip) (fun t=>t == 5) mixed Tryz.func69 rfl (by kernel_rfl) ?_;unfold Tryz.f69;simp only[Option.getD_some];simp only[go_sem];obtain⟨a,ha⟩:=bC hk;have b1:=inB hk;have hst:=hs a (iO ha);have hds:=lR k;refine aN fun j hj=>?_
 simp only[go_sem];refine PC.use (oX _ (by omega)) ?_;simp only[go_sem,b1,aH ha];have h4:(#[97,114,99,32]:Array UInt8).size=4:=rfl;refine⟨by rw[sP];omega,aN fun i hi=>?_⟩;simp only[go_sem];refine aU (aB _ _ _) (by simp[gY]) ?_;simp only[go_sem];have hji:j≠i:=aO (aB _ _ _) hi;have he1:gA k=⟨#[97,114,99,32]⟩++iR k:=rfl;refine mZ (fun ρ' H'=>ρ' 1=int k∧ρ' 2=.rp (aP n) 0∧ρ' 6=str (gA k)∧ρ' 7=.op i 0 0∧H' i=some (qQ a)∧∃j',ρ' 5=.os j'∧j'≠i∧H' j'=some (aY []))
   ⟨by simp only[go_sem],by simp only[go_sem],by simp only[go_sem,he1],by simp only[go_sem],aB _ _ _,j,by simp only[go_sem],hji,by rw[aD _ _ _ _ hji,aD _ _ _ _ hji,aB];rfl⟩ ?_
 clear hi hj hji;rintro ρ H ⟨h1,h2,h6,h7,hi,j,h5,hji,hH⟩;generalize hes0:([]:List Fault)=es0 at hH;have hln0:es0.length≤0:=by rw[←hes0];exact Nat.le_refl _
 refine bD (fun ρ' H'=>ρ' 1=int k∧ρ' 2=.rp (aP n) 0∧ρ' 6=str (gA k)∧ρ' 7=.op i 0 0∧H' i=some (qQ a)∧∃j',ρ' 5=.os j'∧j'≠i∧H' j'=some (aY (es0++opt (sT n.places.length a) ⟨11,gA k⟩))) ?_ fun K hK=>aA (fun hb=>?_) (fun hb=>?_)
 rotate_left
 · simp only[go_sem,h1,h2,h6,h7,h5]
   refine bA hH ⟨rfl,rfl⟩ (by simp only[go_sem]) (by simp only[List.length_map,List.length_cons,List.length_nil];omega) (fun j' hj'=>?_);simp only[go_sem];refine hK _ _ ⟨by simp only[go_sem,h1],by simp only[go_sem,h2],by simp only[go_sem,h6],by simp only[go_sem,h7],dE hi hji hj',j',by simp only[go_sem],(aO hi hj').symm,?_⟩;rw[gP (show(sT n.places.length a)=true from hb)];exact dT (l':=[⟨11,gA k⟩]) rfl
 · simp only[go_sem]
   refine hK _ _ ⟨by simp only[go_sem,h1],by simp only[go_sem,h2],by simp only[go_sem,h6],by simp only[go_sem,h7],hi,j,by simp only[go_sem,h5],hji,?_⟩;rw[gO (show(sT n.places.length a)=false from hb),List.append_nil,hH]
 clear hH h1 h2 h6 h7 h5;rintro ρ H ⟨h1,h2,h6,h7,hi,j,h5,hji,hH⟩;generalize hes1:es0++opt (sT n.places.length a) (⟨11,gA k⟩:Fault)=es1 at hH;have hln1:es1.length≤es0.length+1:=by rw[←hes1,List.length_append];have:=bW (sT n.places.length a) (⟨11,gA k⟩:Fault);omega
 simp only[go_sem,h1,h2,h6,h7,h5,hi];refine bD (fun ρ' H'=>ρ' 1=int k∧ρ' 2=.rp (aP n) 0∧ρ' 6=str (gA k)∧ρ' 7=.op i 0 0∧H' i=some (qQ a)∧∃j',ρ' 5=.os j'∧j'≠i∧H' j'=some (aY (es1++opt (tW a) ⟨2,gA k⟩))) ?_ fun K hK=>aA (fun hb=>?_) (fun hb=>?_)
 rotate_left
 · simp only[go_sem,h1,h2,h6,h7,h5]
   refine bA hH ⟨rfl,rfl⟩ (by simp only[go_sem]) (by simp only[List.length_map,List.length_cons,List.length_nil];omega) (fun j' hj'=>?_);simp only[go_sem];refine hK _ _ ⟨by simp only[go_sem,h1],by simp only[go_sem,h2],by simp only[go_sem,h6],by simp only[go_sem,h7],dE hi hji hj',j',by simp only[go_sem],(aO hi hj').symm,?_⟩;rw[gP (show(tW a)=true from hb)];exact dT (l':=[⟨2,gA k⟩]) rfl
 · simp only[go_sem]
   refine hK _ _ ⟨by simp only[go_sem,h1],by simp only[go_sem,h2],by simp only[go_sem,h6],by simp only[go_sem,h7],hi,j,by simp only[go_sem,h5],hji,?_⟩;rw[gO (show(tW a)=false from hb),List.append_nil,hH]
 clear hH h1 h2 h6 h7 h5;rintro ρ H ⟨h1,h2,h6,h7,hi,j,h5,hji,hH⟩;generalize hes2:es1++opt (tW a) (⟨2,gA k⟩:Fault)=es2 at hH;have hln2:es2.length≤es1.length+1:=by rw[←hes2,List.length_append];have:=bW (tW a) (⟨2,gA k⟩:Fault);omega
 simp only[go_sem,h1,h2,h6,h7,h5,hi];refine⟨fun ρ' H'=>∃m:Nat,m≤k∧ρ' 1=int k∧ρ' 2=.rp (aP n) 0∧ρ' 6=str (gA k)∧ρ' 7=.op i 0 0∧ρ' 5=.os j∧ρ' 8=boo ((n.arcs.take m).any (oN a))∧ρ' 9=int m∧H' i=some (qQ a)∧H' j=some (aY es2),fun ρ _=>k-bQ (ρ 9),
   ⟨0,Nat.zero_le _,by simp only[go_sem,h1],by simp only[go_sem,h2],by simp only[go_sem,h6],by simp only[go_sem,h7],by simp only[go_sem,h5],by simp only[go_sem];rfl,by simp only[go_sem];rfl,hi,hH⟩,?_⟩
 clear h1 h2 h6 h7 h5 hi hH;rintro ρ H ⟨m,hm,h1,h2,h6,h7,h5,h8,h9,hi,hH⟩;simp only[go_sem,h1,h2,h6,h7,h5,h8,h9];refine aA (fun hlt=>?_) (fun hge=>?_)
 · have hlt:=cA hlt
   obtain⟨c,hc⟩:=bC (show m<n.arcs.length by omega);have b2:=inB (show m<n.arcs.length by omega);simp only[go_sem,h1,h2,h6,h7,h5,h8,h9,b2,aH hc];refine aN fun x hx=>?_
   simp only[go_sem];refine aU (aB _ _ _) (by simp[gY]) ?_;have hix:=aO hi hx;have hjx:=aO hH hx;simp only[go_sem,h1,h2,h6,h7,h5,h8,h9,aD _ _ _ _ hix,hi,bG (show m≤4611686018427387904 by omega)];refine⟨⟨m+1,hlt,?_,rfl,?_⟩,by simp only[aI];omega⟩
   · rw[BY hc];simp only[oN]
   · rw[aD _ _ _ _ hjx,aD _ _ _ _ hjx,hH]
 · have hge:=cF hm hge
   subst hge;simp only[go_sem,h1,h2,h6,h7,h5,h8,h9];clear h1 h2 h8 h9;refine bD (fun ρ' H'=>ρ' 6=str (gA m)∧ρ' 7=.op i 0 0∧H' i=some (qQ a)∧∃j',ρ' 5=.os j'∧j'≠i∧H' j'=some (aY (es2++opt ((n.arcs.take m).any (oN a)) ⟨6,gA m⟩))) ?_ fun K hK=>aA (fun hb=>?_) (fun hb=>?_)
   rotate_left
   · simp only[go_sem,h6,h7,h5]
     refine bA hH ⟨rfl,rfl⟩ (by simp only[go_sem]) (by simp only[List.length_map,List.length_cons,List.length_nil];omega) (fun j' hj'=>?_);simp only[go_sem];refine hK _ _ ⟨by simp only[go_sem,h6],by simp only[go_sem,h7],dE hi hji hj',j',by simp only[go_sem],(aO hi hj').symm,?_⟩;rw[gP (show((n.arcs.take m).any (oN a))=true from hb)];exact dT (l':=[⟨6,gA m⟩]) rfl
   · simp only[go_sem]
     refine hK _ _ ⟨by simp only[go_sem,h6],by simp only[go_sem,h7],hi,j,by simp only[go_sem,h5],hji,?_⟩;rw[gO (show((n.arcs.take m).any (oN a))=false from hb),List.append_nil,hH]
   clear hH h6 h7 h5;rintro ρ H ⟨h6,h7,hi,j,h5,hji,hH⟩;generalize hes3:es2++opt ((n.arcs.take m).any (oN a)) (⟨6,gA m⟩:Fault)=es3 at hH;have hln3:es3.length≤es2.length+1:=by rw[←hes3,List.length_append];have:=bW ((n.arcs.take m).any (oN a)) (⟨6,gA m⟩:Fault);omega
   simp only[go_sem,h6,h7,h5,hi];refine PC.use (OW a.travel hst.1) ?_;simp only[go_sem];have htl:=AC a.travel;have htr:(hY (lA n.arcs m).travel).map (fun f=>(⟨f.err,gA m⟩:Fault))=(hY a.travel).map (fun f=>⟨f.err,gA m⟩):=by rw[lN ha]
   generalize hY a.travel=tr at htl htr;refine⟨fun ρ H=>∃q:Nat,q≤tr.length∧ρ 6=str (gA m)∧ρ 7=.op i 0 0∧ρ 11=.sl (tr.map fI)∧ρ 12=int q∧H i=some (qQ a)∧∃j,ρ 5=.os j∧j≠i∧H j=some (aY (es3++(tr.take q).map fun f=>⟨f.err,gA m⟩)),fun ρ _=>tr.length-bQ (ρ 12),
     ⟨0,Nat.zero_le _,by simp only[go_sem,h6],by simp only[go_sem,h7],by simp only[go_sem],by simp only[go_sem];rfl,hi,j,by simp only[go_sem,h5],hji,by simpa using hH⟩,?_⟩
   clear h6 h7 h5 hi hH hji;rintro ρ H ⟨q,hq,h6,h7,h11,h12,hi,j,h5,hji,hH⟩;simp only[go_sem,h6,h7,h5,h11,h12];refine aA (fun hlt=>?_) (fun hge=>?_)
   · have hlt:=cA hlt
     obtain⟨f,hf⟩:=bC hlt;have b2:=inB hlt;simp only[go_sem,h6,h7,h5,h11,h12,b2,aH hf];refine bA hH ⟨rfl,rfl⟩ (by simp only[go_sem]) (by simp only[List.length_map,List.length_append,List.length_take,List.length_cons,List.length_nil];omega) (fun j' hj'=>?_);simp only[go_sem,h6,h7,h5,h11,h12,bG (show q≤4611686018427387904 by omega)];refine⟨⟨q+1,hlt,rfl,dE hi hji hj',j',rfl,(aO hi hj').symm,?_⟩,by simp only[aI];omega⟩;rw[yA hf,←List.append_assoc];exact dT (l':=[⟨f.err,gA m⟩]) rfl
   · have hge:=cF hq hge
     subst hge;simp only[go_sem,h6,h7,h5,h11,h12,hi];clear h11 h12;rw[List.take_length]at hH;generalize hes4:es3++tr.map (fun f=>(⟨f.err,gA m⟩:Fault))=es4 at hH;have hln4:es4.length=es3.length+tr.length:=by rw[←hes4,List.length_append,List.length_map]
     refine bD (fun ρ' H'=>ρ' 6=str (gA m)∧ρ' 7=.op i 0 0∧H' i=some (qQ a)∧∃j',ρ' 5=.os j'∧j'≠i∧H' j'=some (aY (es4++opt (decide ((a.slow.length:Int)>16)) ⟨4,gA m⟩))) ?_ fun K hK=>aA (fun hb=>?_) (fun hb=>?_)
     rotate_left
     · simp only[go_sem,h6,h7,h5]
       refine bA hH ⟨rfl,rfl⟩ (by simp only[go_sem]) (by simp only[List.length_map,List.length_cons,List.length_nil];omega) (fun j' hj'=>?_);simp only[go_sem];refine hK _ _ ⟨by simp only[go_sem,h6],by simp only[go_sem,h7],dE hi hji hj',j',by simp only[go_sem],(aO hi hj').symm,?_⟩;rw[gP (show(decide ((a.slow.length:Int)>16))=true from hb)];exact dT (l':=[⟨4,gA m⟩]) rfl
     · simp only[go_sem]
       refine hK _ _ ⟨by simp only[go_sem,h6],by simp only[go_sem,h7],hi,j,by simp only[go_sem,h5],hji,?_⟩;rw[gO (show(decide ((a.slow.length:Int)>16))=false from hb),List.append_nil,hH]
     clear hH h6 h7 h5;rintro ρ H ⟨h6,h7,hi,j,h5,hji,hH⟩;generalize hes5:es4++opt (decide ((a.slow.length:Int)>16)) (⟨4,gA m⟩:Fault)=es5 at hH;have hln5:es5.length≤es4.length+1:=by rw[←hes5,List.length_append];have:=bW (decide ((a.slow.length:Int)>16)) (⟨4,gA m⟩:Fault);omega
     simp only[go_sem,h6,h7,h5,hi];refine⟨fun ρ H=>∃k:Nat,k≤a.slow.length∧ρ 6=str (gA m)∧ρ 7=.op i 0 0∧ρ 13=int k∧H i=some (qQ a)∧∃j,ρ 5=.os j∧j≠i∧H j=some (aY (es5++(List.range k).flatMap fun x=>opt (mB a.slow x) ⟨2,gA m⟩)),fun ρ _=>a.slow.length-bQ (ρ 13),
       ⟨0,Nat.zero_le _,by simp only[go_sem,h6],by simp only[go_sem,h7],by simp only[go_sem];rfl,hi,j,by simp only[go_sem,h5],hji,by simpa using hH⟩,?_⟩
     clear h6 h7 h5 hi hH hji;rintro ρ H ⟨k,hk,h6,h7,h13,hi,j,h5,hji,hH⟩;generalize hes:es5++(List.range k).flatMap (fun x=>opt (mB a.slow x) (⟨2,gA m⟩:Fault))=es at hH;have hlen:es.length≤es5.length+k:=by
       have:=dV (f:=fun x=>opt (mB a.slow x) (⟨2,gA m⟩:Fault)) (c:=1) (fun x=>bW _ _) (List.range k);rw[←hes,List.length_append];rw[List.length_range]at this;omega
     simp only[go_sem,h6,h7,h5,h13,hi];refine aA (fun hlt=>?_) (fun hge=>?_)
     · have hlt:=cA hlt
       have hkk:k≤4611686018427387904:=by omega
       obtain⟨p,hp⟩:=bC hlt;obtain⟨r,hr⟩:=bC (show k-1<a.slow.length by omega);have b2:=inB hlt;simp only[go_sem,h6,h7,h5,h13,hi,b2,aH hp];refine aN fun x hx=>?_
       simp only[go_sem];refine aU (aB _ _ _) (by simp[fQ]) ?_;have hix:=aO hi hx;have hjx:=aO hH hx;simp only[go_sem];refine gL (by rfl) (by kernel_rfl) ?_;simp only[go_sem,h6,h7,h5,h13,aD _ _ _ _ hix,hi];refine⟨_,(PD _).q rfl,?_⟩;simp only[go_sem,h6,h7,h5,h13,aD _ _ _ _ hix,hi];refine⟨_,fun _=>(PD _).q rfl,?_⟩;simp only[go_sem,h6,h7,h5,h13,aD _ _ _ _ hix,hi,Tg hkk,aH hr];have hi2:aJ (aJ H x (some ⟨136,2,[[int 0,int 0]]⟩)) x (some ⟨136,2,[bR p]⟩) i=some (qQ a):=by rw[aD _ _ _ _ hix,aD _ _ _ _ hix,hi]
       have hH2:aJ (aJ H x (some ⟨136,2,[[int 0,int 0]]⟩)) x (some ⟨136,2,[bR p]⟩) j=some (aY es):=by rw[aD _ _ _ _ hjx,aD _ _ _ _ hjx,hH]
       have hbs:mB a.slow k=(!inR p.t 0 4096|| !inR p.a 0 4096||decide ((k:Int)>0)&&decide (p.t≤r.t)):=by rw[mB,dD hp,dD hr]
       have hfl:es5++(List.range (k+1)).flatMap (fun x=>opt (mB a.slow x) (⟨2,gA m⟩:Fault))=es++opt (mB a.slow k) ⟨2,gA m⟩:=by rw[gG,←List.append_assoc,hes]
       refine⟨fun h=>by
         have:(k:Int)>0:=by simpa using h.2
         rw[mH hkk];omega,fU (fun ρ' H'=>ρ' 6=str (gA m)∧ρ' 7=.op i 0 0∧ρ' 13=int k∧H' i=some (qQ a)∧∃j,ρ' 5=.os j∧j≠i∧H' j=some (aY (es++opt (mB a.slow k) ⟨2,gA m⟩))) ?_ fun K hK _ _=>aA (fun hb=>?_) (fun hb=>?_)⟩
       · clear h6 h7 h5 h13
         rintro ρ H ⟨h6,h7,h13,hi,j,h5,hji,hH⟩;simp only[go_sem,h6,h7,h5,h13,bG hkk];exact⟨⟨k+1,hlt,rfl,hi,j,rfl,hji,by rw[hfl];exact hH⟩,by simp only[aI];omega⟩
       · simp only[go_sem,h6,h7,h5,h13]
         refine bA hH2 ⟨rfl,rfl⟩ (by simp only[go_sem]) (by simp only[List.length_map,List.length_cons,List.length_nil];omega) (fun j' hj'=>?_);simp only[go_sem];refine hK _ _ ⟨by simp only[go_sem,h6],by simp only[go_sem,h7],by simp only[go_sem,h13],dE hi2 hji hj',j',by simp only[go_sem],(aO hi2 hj').symm,?_⟩;rw[gP (hbs.trans hb)];exact dT (l':=[⟨2,gA m⟩]) rfl
       · simp only[go_sem]
         refine hK _ _ ⟨by simp only[go_sem,h6],by simp only[go_sem,h7],by simp only[go_sem,h13],hi2,j,by simp only[go_sem,h5],hji,?_⟩;rw[gO (hbs.trans hb),List.append_nil,hH2]
     · have hge:=cF hk hge
       subst hge;simp only[go_sem,h5];refine⟨_,rfl,?_⟩;rw[hH,←hes,←hes5,←hes4,←htr,←hes3,←hes2,←hes1,←hes0,A9,lN ha]
theorem BT(n:Network)(k:Nat)(ht:(lA n.arcs k).travel.length≤1048576)(hs:(lA n.arcs k).slow.length≤1048576):(A9 n k).length≤3145740:=by
 have h1:=bW (sT n.places.length (lA n.arcs k)) (⟨11,gA k⟩:Fault);have h2:=bW (tW (lA n.arcs k)) (⟨2,gA k⟩:Fault);have h3:=bW ((n.arcs.take k).any (oN (lA n.arcs k))) (⟨6,gA k⟩:Fault);have h4:=AC (lA n.arcs k).travel;have h5:=bW (decide (((lA n.arcs k).slow.length:Int)>16)) (⟨4,gA k⟩:Fault);have h6:=dV (f:=fun i=>opt (mB (lA n.arcs k).slow i) (⟨2,gA k⟩:Fault)) (c:=1) (fun x=>bW _ _) (List.range (lA n.arcs k).slow.length);rw[List.length_range]at h6;simp only[A9,List.length_append,List.length_map,List.length_nil];omega
theorem AW{α β:Type}{f:α→List β}{c:Nat}:∀l:List α,(∀x∈l,(f x).length≤c)→(l.flatMap f).length≤c*l.length
 | [],_=>by simp
 | x::r,h=>by
   have h1:=h x (by simp);have h2:=AW r fun y hy=>h y (by simp[hy])
   simp only[List.flatMap_cons,List.length_append,List.length_cons,Nat.mul_add,Nat.mul_one];omega
def CO(n:Network):List Fault:=sD n.places++opt (decide ((n.arcs.length:Int)>1024)) ⟨4,⟨#[97,114,99,115]⟩⟩++(List.range n.arcs.length).flatMap (A9 n)
theorem AM(l:List ByteArray):(sD l).length≤l.length+1:=by
 have:=dV (Mf l) (List.range l.length);have h2:=bW (decide ((l.length:Int)>24)) (⟨4,⟨#[112,108,97,99,101,115]⟩⟩:Fault);rw[sD,List.length_append];rw[List.length_range]at this;omega
theorem Zx(n:Network)(hp:n.places.length≤1048576)(hps:∀s∈n.places,s.size≤1048576)(hl:n.arcs.length≤1048576)(hs:∀a∈n.arcs,a.travel.length≤1048576∧a.slow.length≤1048576):
   NC Tryz.prog 30 [.agg (aP n)] (aY (CO n)) .os:=by
 have hal:∀k,(A9 n k).length≤3145740:=fun k=>by
   rcases Nat.lt_or_ge k n.arcs.length with h|h
   · obtain⟨a,ha⟩:=bC h
     have hm:=hs a (iO ha);exact BT n k (by rw[lN ha];exact hm.1) (by rw[lN ha];exact hm.2)
   · have:lA n.arcs k=⟨0,0,0,0,[],[]⟩:=by simp[lA,List.getD,List.getElem?_eq_none h]
     exact BT n k (by rw[this];simp) (by rw[this];simp)
 have hpl:=AM n.places;refine NC.body (c:=Tryz.f30.body.getD .skip) (fun t=>t == 3) mixed Tryz.func30 rfl (by kernel_rfl) ?_;unfold Tryz.f30;simp only[Option.getD_some];simp only[go_sem];refine NC.use (yC n hp hps) fun j hj=>?_
 simp only[go_sem];refine mZ (fun ρ' H'=>ρ' 1=.rp (aP n) 0∧∃j',ρ' 3=.os j'∧H' j'=some (aY (sD n.places))) ⟨by simp only[go_sem],j,by simp only[go_sem],aB _ _ _⟩ ?_;clear hj;rintro ρ H ⟨h1,j,h3,hH⟩;generalize hes0:sD n.places=es0 at hH hpl;refine bD (fun ρ' H'=>ρ' 1=.rp (aP n) 0∧∃j',ρ' 3=.os j'∧H' j'=some (aY (es0++opt (decide ((n.arcs.length:Int)>1024)) ⟨4,⟨#[97,114,99,115]⟩⟩))) ?_ fun K hK=>aA (fun hb=>?_) (fun hb=>?_)
 rotate_left
 · simp only[go_sem,h1,h3]
   refine bA hH ⟨rfl,rfl⟩ (by simp only[go_sem]) (by simp only[List.length_map,List.length_cons,List.length_nil];omega) (fun j' hj'=>?_);simp only[go_sem];refine hK _ _ ⟨by simp only[go_sem,h1],j',by simp only[go_sem],?_⟩;rw[gP (show(decide ((n.arcs.length:Int)>1024))=true from hb)];exact dT (l':=[⟨4,⟨#[97,114,99,115]⟩⟩]) rfl
 · simp only[go_sem]
   refine hK _ _ ⟨by simp only[go_sem,h1],j,by simp only[go_sem,h3],?_⟩;rw[gO (show(decide ((n.arcs.length:Int)>1024))=false from hb),List.append_nil,hH]
 clear hH h1 h3;rintro ρ H ⟨h1,j,h3,hH⟩;generalize hes1:es0++opt (decide ((n.arcs.length:Int)>1024)) (⟨4,⟨#[97,114,99,115]⟩⟩:Fault)=es1 at hH;have hln1:es1.length≤es0.length+1:=by rw[←hes1,List.length_append];have:=bW (decide ((n.arcs.length:Int)>1024)) (⟨4,⟨#[97,114,99,115]⟩⟩:Fault);omega
 simp only[go_sem,h1,h3];refine⟨fun ρ H=>∃k:Nat,k≤n.arcs.length∧ρ 1=.rp (aP n) 0∧ρ 4=int k∧∃j,ρ 3=.os j∧H j=some (aY (es1++(List.range k).flatMap (A9 n))),fun ρ _=>n.arcs.length-bQ (ρ 4),⟨0,Nat.zero_le _,by simp only[go_sem,h1],by simp only[go_sem];rfl,j,by simp only[go_sem,h3],by simpa using hH⟩,?_⟩;clear hH h1 h3;rintro ρ H ⟨k,hk,h1,h4,j,h3,hH⟩;generalize hes:es1++(List.range k).flatMap (A9 n)=es at hH;have hlen:es.length≤es1.length+3145740*k:=by
   have:=dV hal (List.range k);rw[←hes,List.length_append];rw[List.length_range]at this;omega
 simp only[go_sem,h1,h3,h4];refine aA (fun hlt=>?_) (fun hge=>?_)
 · have hlt:=cA hlt
   simp only[go_sem,h1,h3,h4];refine NC.use (aaC n k hlt hp hl hs) fun i hi=>?_
   simp only[go_sem];have:=hal k;refine yK (jJ hH hi) (aB _ _ _) ⟨rfl,rfl⟩ (nF _) (by simp only[List.length_map];omega) (fun j' hj'=>?_);simp only[go_sem,h1,h3,h4,bG (show k≤4611686018427387904 by omega)];refine⟨⟨k+1,hlt,rfl,j',rfl,?_⟩,by simp only[aI];omega⟩;rw[gG,←List.append_assoc,hes];exact dT rfl
 · have hge:=cF hk hge
   subst hge;simp only[go_sem,h3];exact⟨_,rfl,by rw[hH,←hes,←hes1,←hes0];rfl⟩
def small(l:List Fault):Prop:=∀f∈l,f.at_.size≤4194304
theorem ON:small []:=by simp[small]
theorem gQ{a b:List Fault}(ha:small a)(hb:small b):small (a++b):=fun f hf=>(List.mem_append.1 hf).elim (ha f) (hb f)
theorem gD{b:Bool}{f:Fault}(h:f.at_.size≤4194304):small (opt b f):=by
 cases b
 · simp[small,opt]
 · intro g hg;simp[opt]at hg;subst hg;exact h
theorem nD{α:Type}{F:α→List Fault}{l:List α}(h:∀x∈l,small (F x)):small (l.flatMap F):=fun f hf=>by
 obtain⟨x,hx,hf⟩:=List.mem_flatMap.1 hf;exact h x hx f hf
theorem zX{α:Type}{F:α→Fault}{l:List α}(h:∀x∈l,(F x).at_.size≤4194304):small (l.map F):=fun f hf=>by
 obtain⟨x,hx,rfl⟩:=List.mem_map.1 hf;exact h x hx
theorem rY{i n:Nat}(h:i∈List.range n):i<n:=List.mem_range.1 h
theorem Oj(i:Nat):(gA i).size≤i+5:=by
 have:=lR i;unfold gA;rw[ByteArray.size_append];have:(⟨#[97,114,99,32]⟩:ByteArray).size=4:=rfl;omega
theorem KM(w:ByteArray)(i:Nat):(tY w i).size≤w.size+i+2:=by
 have:=lR i;unfold tY;rw[ByteArray.size_append,ByteArray.size_append];have:(⟨#[32]⟩:ByteArray).size=1:=rfl;omega
theorem GG(l:List ByteArray)(h:l.length≤1048576):small (sD l):=gQ (gD (by decide)) (nD fun i hi=>by
 have:=rY hi;have:=Kc i;unfold fE;split
 · exact gD (b:=true) (by show(pS i).size≤_;omega)
 · exact gD (by show(pS i).size≤_;omega))
theorem N5(n:Network)(hp:n.places.length≤1048576)(hl:n.arcs.length≤1048576):small (CO n):=by
 refine gQ (gQ (GG _ hp) (gD (by decide))) (nD fun i hi=>?_);have:=rY hi;have h:(gA i).size≤4194304:=by have:=Oj i;omega
 exact gQ (gQ (gQ (gQ (gQ (gQ ON (gD h)) (gD h)) (gD h)) (zX fun _ _=>h)) (gD h)) (nD fun _ _=>gD h)
theorem JJ(n:Network)(l:List VType)(hl:l.length≤1048576):small (pI n l):=
 gQ (gD (by decide)) (nD fun i hi=>zX fun _ _=>by have:=rY hi;have:=lR i;show(iR i).size≤_;omega)
theorem GL(n:Network)(d T:Int)(l:List Order)(hl:l.length≤1048576):small (nI n d T l):=
 gQ (gD (by decide)) (nD fun i hi=>zX fun _ _=>by have:=rY hi;have:=lR i;show(iR i).size≤_;omega)
theorem AE(N:Int)(l:List Pair)(w:ByteArray)(b:Bool)(hl:l.length≤1048576)(hw:w.size≤100):small (qU N l w b):=gQ (gD (by show w.size≤_;omega)) (nD fun i hi=>by
 have:=rY hi;have:=KM w i;unfold fK;split
 · exact gD (b:=true) (by show(tY w i).size≤_;omega)
 · exact gD (by show(tY w i).size≤_;omega))
theorem KY(n:Network)(l:List VType):(pI n l).length≤9*l.length+1:=by
 have:=dV (f:=gH n l) (c:=9) (fun x=>by unfold gH;rw[List.length_map];exact sR _ _ _ _) (List.range l.length);have h2:=bW (!inR l.length 1 6) (⟨4,ByteArray.empty⟩:Fault);rw[pI,List.length_append];rw[List.length_range]at this;omega
theorem Ke(n:Network)(d T:Int)(l:List Order):(nI n d T l).length≤9*l.length+1:=by
 have:=dV (f:=fD n d T l) (c:=9) (fun x=>by unfold fD;rw[List.length_map];exact qZ _ _ _ _ _ _) (List.range l.length);have h2:=bW (decide ((l.length:Int)>10)) (⟨4,ByteArray.empty⟩:Fault);rw[nI,List.length_append];rw[List.length_range]at this;omega
structure InB(x:Instance):Prop where
 places:x.net.places.length≤1048576
 place:∀s∈x.net.places,s.size≤1048576
 arcs:x.net.arcs.length≤1048576
 arc:∀a∈x.net.arcs,a.travel.length≤1048576∧a.slow.length≤1048576
 types:x.types.length≤1048576
 type:∀t∈x.types,t.name.size≤1048576∧t.cap.length≤1048576
 orders:x.orders.length≤1048576
 order:∀t∈x.orders,t.name.size≤1048576∧t.load.length≤1048576
 apart:x.apart.length≤1048576
 before:x.before.length≤1048576
def zH(x:Instance):List Fault:=qU x.orders.length x.apart ⟨#[97,112,97,114,116]⟩ true++qU x.orders.length x.before ⟨#[98,101,102,111,114,101]⟩ false
def jE(x:Instance):List Fault:=(CO x.net).map (jR ⟨#[110,101,116]⟩)++(pI x.net x.types).map (jR ⟨#[116,121,112,101,115]⟩) ++
 (nI x.net (kW x.types) x.types.length x.orders).map (jR ⟨#[111,114,100,101,114,115]⟩)++(zH x).map (jR ⟨#[114,117,108,101,115]⟩)
theorem SO(x:Instance)(h:InB x):(CO x.net).length≤3300000000000:=by
 have h1:=AM x.net.places;have h2:=bW (decide ((x.net.arcs.length:Int)>1024)) (⟨4,⟨#[97,114,99,115]⟩⟩:Fault);have h3:=AW (f:=A9 x.net) (c:=3145740) (List.range x.net.arcs.length) fun k hk=>by
   obtain⟨a,ha⟩:=bC (rY hk);have hm:=h.arc a (iO ha);exact BT x.net k (by rw[lN ha];exact hm.1) (by rw[lN ha];exact hm.2)
 have h4:=h.places;have h5:=h.arcs;rw[List.length_range]at h3;simp only[CO,List.length_append];omega
theorem TK(x:Instance)(h:InB x):NC Tryz.prog 9 [.agg (aQ x)] (aY (jE x)) .os:=by
 have c1:PC Tryz.prog 30 [.agg (aP x.net)] (.sl ((CO x.net).map fI)):=NC.pc (Zx x.net h.places h.place h.arcs h.arc);have c2:PC Tryz.prog 31 [.agg (aP x.net),.sl (x.types.map bE)] (.sl ((pI x.net x.types).map fI)):=NC.pc (TA x.net x.types h.types h.type h.places);have c3:PC Tryz.prog 32 [.agg (aP x.net),int (kW x.types),int x.types.length,.sl (x.orders.map aX)] (.sl ((nI x.net (kW x.types) x.types.length x.orders).map fI)):=NC.pc (SR x.net _ _ x.orders h.orders h.order h.places);have c4:PC Tryz.prog 34 [int x.orders.length,.sl (x.apart.map fO),.sl (x.before.map fO)] (.sl ((zH x).map fI)):=NC.pc (GO x.orders.length x.apart x.before h.apart h.before);have l1:=SO x h;have l2:=KY x.net x.types;have l3:=Ke x.net (kW x.types) x.types.length x.orders;have l4:(zH x).length≤2097154:=by
   have a1:=sB x.orders.length x.apart ⟨#[97,112,97,114,116]⟩ true;have a2:=sB x.orders.length x.before ⟨#[98,101,102,111,114,101]⟩ false;have:=h.apart;have:=h.before;rw[zH,List.length_append];omega
 have s1:=N5 x.net h.places h.arcs;have s2:=JJ x.net x.types h.types;have s3:=GL x.net (kW x.types) x.types.length x.orders h.orders;have s4:small (zH x):=gQ (AE _ _ _ _ h.apart (by decide)) (AE _ _ _ _ h.before (by decide));have ht:=h.types;have ho:=h.orders;refine NC.body (c:=Tryz.f9.body.getD .skip) (fun t=>t == 27) mixed Tryz.func9 rfl (by kernel_rfl) ?_;unfold Tryz.f9;simp only[Option.getD_some];simp only[go_sem];refine PC.use c1 ?_;simp only[go_sem];refine NC.use (Bn ⟨#[110,101,116]⟩ _ (by decide) (by omega) fun f hf=>Nat.le_trans (s1 f hf) (by decide)) fun j hj=>?_
 simp only[go_sem];refine PC.use c2 ?_;simp only[go_sem];refine NC.use (Bn ⟨#[116,121,112,101,115]⟩ _ (by decide) (by omega) fun f hf=>Nat.le_trans (s2 f hf) (by decide)) fun i hi=>?_
 simp only[go_sem];refine yK (jJ (aB _ _ _) hi) (aB _ _ _) ⟨rfl,rfl⟩ (nF _) (by simp only[List.length_map];omega) (fun j' hj'=>?_);simp only[go_sem];refine Ft (by kernel_rfl) ?_;simp only[go_sem];refine⟨_,(Th x.types).q rfl,?_⟩;simp only[go_sem];have hH:=dT (e:=128) (sz:=2) (enc:=fI) (H:=aJ (aJ (aJ bT j (some (aY ((CO x.net).map (jR ⟨#[110,101,116]⟩))))) i (some (aY ((pI x.net x.types).map (jR ⟨#[116,121,112,101,115]⟩))))) j none) (k:=j') (l:=(CO x.net).map (jR ⟨#[110,101,116]⟩)) (l':=(pI x.net x.types).map (jR ⟨#[116,121,112,101,115]⟩)) rfl;generalize aJ (aJ (aJ (aJ bT j _) i _) j none) j' _=H at hH ⊢;generalize hes:(CO x.net).map (jR ⟨#[110,101,116]⟩)++(pI x.net x.types).map (jR ⟨#[116,121,112,101,115]⟩)=es at hH;have hel:es.length≤3300000000000+9*x.types.length+1:=by rw[←hes,List.length_append,List.length_map,List.length_map];omega
 clear hi hj hj';refine PC.use c3 ?_;simp only[go_sem];refine NC.use (Bn ⟨#[111,114,100,101,114,115]⟩ _ (by decide) (by omega) fun f hf=>Nat.le_trans (s3 f hf) (by decide)) fun i hi=>?_
 simp only[go_sem];refine yK (jJ hH hi) (aB _ _ _) ⟨rfl,rfl⟩ (nF _) (by simp only[List.length_map];omega) (fun k hk=>?_);simp only[go_sem];have hH2:=dT (e:=128) (sz:=2) (enc:=fI) (H:=aJ (aJ H i (some (aY ((nI x.net (kW x.types) x.types.length x.orders).map (jR ⟨#[111,114,100,101,114,115]⟩))))) j' none) (k:=k) (l:=es) (l':=(nI x.net (kW x.types) x.types.length x.orders).map (jR ⟨#[111,114,100,101,114,115]⟩)) rfl;generalize aJ (aJ (aJ H i _) j' none) k _=H2 at hH2 ⊢;clear hi hk;refine PC.use c4 ?_;simp only[go_sem];refine NC.use (Bn ⟨#[114,117,108,101,115]⟩ _ (by decide) (by omega) fun f hf=>Nat.le_trans (s4 f hf) (by decide)) fun q hq=>?_
 simp only[go_sem];refine yK (jJ hH2 hq) (aB _ _ _) ⟨rfl,rfl⟩ (nF _) (by simp only[List.length_map,List.length_append];omega) (fun m hm=>?_);simp only[go_sem];refine⟨m,rfl,?_⟩;rw[jE,hes];exact dT rfl
end Go.Proofs.YtdlijlecpopadaaGreatDoor
