/- Texts joined by a program: RefF. -/
import Derived.Test.YtdlijlecpopadaaGreatDoorZv19
set_option linter.unusedSimpArgs false
set_option linter.unusedVariables false
set_option maxRecDepth 100000
namespace Go.Proofs.YtdlijlecpopadaaGreatDoor
open Go.Aw Go.Aw.D Go.Proofs Ty
def wQ(l:List Order)(k:Nat)(s:ByteArray):Bool:=(l.take k).any fun t=>t.name.toList == s.toList
def jB(P:Nat)(d T:Int)(l:List Order)(k:Nat)(o:Order):List Int:=
 []++opt (!jS o.name) 5++opt (wQ l k o.name) 6++opt (!dL o.load d) 17++opt (!inR o.pick.place (-1) ((P:Int)-1)|| !inR o.drop.place (-1) ((P:Int)-1)) 11++opt (o.pick.place == -1&&o.drop.place == -1) 19++opt (dW o.pick != 0||dW o.drop != 0) 14++opt (!inR o.skills 0 1073741823) 18++opt (!inR o.penalty (-1) 1000000|| !inR o.split 1 4||decide (o.split>1)&&(o.pick.place != -1&&o.drop.place != -1)||decide (o.last< -1)||decide (o.last≥T)||decide (o.now< -1)||decide (o.now≥T)) 2
theorem PA(P:Nat)(d T:Int)(l:List Order)(k:Nat)(o:Order)(ho:l[k]?=some o)(hP:P≤1048576)(hl:l.length≤1048576)(hs:∀t∈l,t.name.size≤1048576∧t.load.length≤1048576):
   PC Tryz.prog 73 [int P,int d,int T,.sl (l.map aX),int k] (.sl ((jB P d T l k o).map aM)):=by
 refine PC.body (c:=Tryz.f73.body.getD .skip) (fun t=>t == 11) mixed Tryz.func73 rfl (by kernel_rfl) ?_;unfold Tryz.f73;simp only[Option.getD_some];simp only[go_sem];have hk:k<l.length:=by
   rcases Nat.lt_or_ge k l.length with h|h
   · exact h
   · rw[List.getElem?_eq_none h]at ho;simp at ho
 have b1:=inB hk;have hst:=hs o (iO ho);refine aN fun j hj=>?_
 simp only[go_sem,b1,aH ho];refine aN fun i hi=>?_
 simp only[go_sem];refine aU (aB _ _ _) (by simp[mE]) ?_;simp only[go_sem];refine PC.use (KS _ hst.1) ?_;simp only[go_sem];have hji:j≠i:=aO (aB _ _ _) hi;refine mZ (fun ρ' H'=>ρ' 0=int P∧ρ' 1=int d∧ρ' 2=int T∧ρ' 3=.sl (l.map aX)∧ρ' 4=int k∧ρ' 12=.op i 0 0∧H' i=some (mG o)∧∃j',ρ' 11=.os j'∧j'≠i∧H' j'=some (jF []))
   ⟨by simp only[go_sem],by simp only[go_sem],by simp only[go_sem],by simp only[go_sem],by simp only[go_sem],by simp only[go_sem],aB _ _ _,j,by simp only[go_sem],hji,by rw[aD _ _ _ _ hji,aD _ _ _ _ hji,aB];rfl⟩ ?_
 clear hi hj hji;rintro ρ H ⟨h0,h1,h2,h3,h4,h12,hi,j,h11,hji,hH⟩;generalize hes0:([]:List Int)=es0 at hH;have hln0:es0.length≤0:=by rw[←hes0];exact Nat.le_refl _
 refine bD (fun ρ' H'=>ρ' 0=int P∧ρ' 1=int d∧ρ' 2=int T∧ρ' 3=.sl (l.map aX)∧ρ' 4=int k∧ρ' 12=.op i 0 0∧H' i=some (mG o)∧∃j',ρ' 11=.os j'∧j'≠i∧H' j'=some (jF (es0++opt (!jS o.name) 5))) ?_ fun K hK=>aA (fun hb=>?_) (fun hb=>?_)
 rotate_left
 · simp only[go_sem,h0,h1,h2,h3,h4,h12,h11]
   refine bA hH ⟨rfl,rfl⟩ (by simp only[go_sem]) (by simp only[List.length_map,List.length_cons,List.length_nil];omega) (fun j' hj'=>?_);simp only[go_sem];refine hK _ _ ⟨by simp only[go_sem,h0],by simp only[go_sem,h1],by simp only[go_sem,h2],by simp only[go_sem,h3],by simp only[go_sem,h4],by simp only[go_sem,h12],dE hi hji hj',j',by simp only[go_sem],(aO hi hj').symm,?_⟩;rw[gP (show(!jS o.name)=true from hb)];exact fR (l':=[5]) rfl
 · simp only[go_sem]
   refine hK _ _ ⟨by simp only[go_sem,h0],by simp only[go_sem,h1],by simp only[go_sem,h2],by simp only[go_sem,h3],by simp only[go_sem,h4],by simp only[go_sem,h12],hi,j,by simp only[go_sem,h11],hji,?_⟩;rw[gO (show(!jS o.name)=false from hb),List.append_nil,hH]
 clear hH h0 h1 h2 h3 h4 h12 h11;rintro ρ H ⟨h0,h1,h2,h3,h4,h12,hi,j,h11,hji,hH⟩;generalize hes1:es0++opt (!jS o.name) (5:Int)=es1 at hH;have hln1:es1.length≤es0.length+1:=by rw[←hes1,List.length_append];have:=bW (!jS o.name) (5:Int);omega
 simp only[go_sem,h0,h1,h2,h3,h4,h12,h11,hi];refine Ls (fun ρ' H'=>ρ' 0=int P∧ρ' 1=int d∧ρ' 2=int T∧ρ' 3=.sl (l.map aX)∧ρ' 4=int k∧ρ' 12=.op i 0 0∧H' i=some (mG o)∧∃j',ρ' 11=.os j'∧j'≠i∧H' j'=some (jF (es1++opt (wQ l k o.name) 6))) ?_ fun Q hQ _=>?_
 rotate_left
 · refine ⟨fun ρ' H' => ∃ m : Nat, m ≤ k ∧ ρ' 0 = int P ∧ ρ' 1 = int d ∧ ρ' 2 = int T ∧ ρ' 3 = .sl (l.map aX) ∧ ρ' 4 = int k ∧ ρ' 12 = .op i 0 0 ∧ ρ' 11 = .os j ∧ ρ' 13 = int m ∧ H' = H ∧ ∀ t ∈ l.take m, (t.name.toList == o.name.toList) = false, fun ρ _ => k - bQ (ρ 13),
     ⟨0,Nat.zero_le _,by simp only[go_sem,h0],by simp only[go_sem,h1],by simp only[go_sem,h2],by simp only[go_sem,h3],by simp only[go_sem,h4],by simp only[go_sem,h12],by simp only[go_sem,h11],by simp only[go_sem];rfl,rfl,by simp⟩,?_⟩
   clear h0 h1 h2 h3 h4 h12 h11;rintro ρ H' ⟨m,hm,h0,h1,h2,h3,h4,h12,h11,h13,rfl,hn⟩;simp only[go_sem,h0,h1,h2,h3,h4,h12,h11,h13];refine aA (fun hlt=>?_) (fun hge=>?_)
   · have hlt:=cA hlt
     obtain⟨t,ht⟩:=bC (show m<l.length by omega);have b2:=inB (show m<l.length by omega);simp only[go_sem];refine gL (by rfl) (by kernel_rfl) ?_;simp only[go_sem,h0,h1,h2,h3,h4,h12,h11,h13,hi,b2,aH ht];refine aA (fun hb=>?_) (fun hb=>?_)
     · simp only[go_sem,h0,h1,h2,h3,h4,h12,h11,h13]
       refine bA hH ⟨rfl,rfl⟩ (by simp only[go_sem]) (by simp only[List.length_map,List.length_cons,List.length_nil];omega) (fun j' hj'=>?_);simp only[go_sem];refine hQ _ _ ⟨by simp only[go_sem,h0],by simp only[go_sem,h1],by simp only[go_sem,h2],by simp only[go_sem,h3],by simp only[go_sem,h4],by simp only[go_sem,h12],dE hi hji hj',j',by simp only[go_sem],(aO hi hj').symm,?_⟩;rw[gP (show wQ l k o.name=true from List.any_eq_true.2 ⟨t,List.mem_of_getElem? (i:=m) (by rw[List.getElem?_take];simp[hlt,ht]),hb⟩)];exact fR (l':=[6]) rfl
     · simp only[go_sem,h0,h1,h2,h3,h4,h12,h11,h13,bG (show m≤4611686018427387904 by omega)]
       exact⟨⟨m+1,hlt,rfl,uD ht hn hb⟩,by simp only[aI];omega⟩
   · have hge:=cF hm hge
     subst hge;simp only[go_sem];refine hQ _ _ ⟨by simp only[go_sem,h0],by simp only[go_sem,h1],by simp only[go_sem,h2],by simp only[go_sem,h3],by simp only[go_sem,h4],by simp only[go_sem,h12],hi,j,by simp only[go_sem,h11],hji,?_⟩;rw[gO (show wQ l m o.name=false from List.any_eq_false.2 fun t ht=>by simp[hn t ht]),List.append_nil,hH]
 clear hH h0 h1 h2 h3 h4 h12 h11;rintro ρ H ⟨h0,h1,h2,h3,h4,h12,hi,j,h11,hji,hH⟩;generalize hes2:es1++opt (wQ l k o.name) (6:Int)=es2 at hH;have hln2:es2.length≤es1.length+1:=by rw[←hes2,List.length_append];have:=bW (wQ l k o.name) (6:Int);omega
 simp only[go_sem,h0,h1,h2,h3,h4,h12,h11,hi];refine PC.use (Gl _ _ hst.2) ?_;simp only[go_sem,h0,h1,h2,h3,h4,h12,h11,hi];refine bD (fun ρ' H'=>ρ' 0=int P∧ρ' 1=int d∧ρ' 2=int T∧ρ' 3=.sl (l.map aX)∧ρ' 4=int k∧ρ' 12=.op i 0 0∧H' i=some (mG o)∧∃j',ρ' 11=.os j'∧j'≠i∧H' j'=some (jF (es2++opt (!dL o.load d) 17))) ?_ fun K hK=>aA (fun hb=>?_) (fun hb=>?_)
 rotate_left
 · simp only[go_sem,h0,h1,h2,h3,h4,h12,h11]
   refine bA hH ⟨rfl,rfl⟩ (by simp only[go_sem]) (by simp only[List.length_map,List.length_cons,List.length_nil];omega) (fun j' hj'=>?_);simp only[go_sem];refine hK _ _ ⟨by simp only[go_sem,h0],by simp only[go_sem,h1],by simp only[go_sem,h2],by simp only[go_sem,h3],by simp only[go_sem,h4],by simp only[go_sem,h12],dE hi hji hj',j',by simp only[go_sem],(aO hi hj').symm,?_⟩;rw[gP (show(!dL o.load d)=true from hb)];exact fR (l':=[17]) rfl
 · simp only[go_sem]
   refine hK _ _ ⟨by simp only[go_sem,h0],by simp only[go_sem,h1],by simp only[go_sem,h2],by simp only[go_sem,h3],by simp only[go_sem,h4],by simp only[go_sem,h12],hi,j,by simp only[go_sem,h11],hji,?_⟩;rw[gO (show(!dL o.load d)=false from hb),List.append_nil,hH]
 clear hH h0 h1 h2 h3 h4 h12 h11;rintro ρ H ⟨h0,h1,h2,h3,h4,h12,hi,j,h11,hji,hH⟩;generalize hes3:es2++opt (!dL o.load d) (17:Int)=es3 at hH;have hln3:es3.length≤es2.length+1:=by rw[←hes3,List.length_append];have:=bW (!dL o.load d) (17:Int);omega
 simp only[go_sem,h0,h1,h2,h3,h4,h12,h11,hi,mH (show P≤4611686018427387904 by omega)];refine PC.use (BP _ _ _) ?_;simp only[go_sem,h0,h1,h2,h3,h4,h12,h11,hi,mH (show P≤4611686018427387904 by omega)];refine⟨_,fun _=>(BP _ _ _).q rfl,?_⟩;simp only[go_sem,h0,h1,h2,h3,h4,h12,h11,hi,mH (show P≤4611686018427387904 by omega)];refine bD (fun ρ' H'=>ρ' 0=int P∧ρ' 1=int d∧ρ' 2=int T∧ρ' 3=.sl (l.map aX)∧ρ' 4=int k∧ρ' 12=.op i 0 0∧H' i=some (mG o)∧∃j',ρ' 11=.os j'∧j'≠i∧H' j'=some (jF (es3++opt (!inR o.pick.place (-1) ((P:Int)-1)|| !inR o.drop.place (-1) ((P:Int)-1)) 11))) ?_ fun K hK=>aA (fun hb=>?_) (fun hb=>?_)
 rotate_left
 · simp only[go_sem,h0,h1,h2,h3,h4,h12,h11]
   refine bA hH ⟨rfl,rfl⟩ (by simp only[go_sem]) (by simp only[List.length_map,List.length_cons,List.length_nil];omega) (fun j' hj'=>?_);simp only[go_sem];refine hK _ _ ⟨by simp only[go_sem,h0],by simp only[go_sem,h1],by simp only[go_sem,h2],by simp only[go_sem,h3],by simp only[go_sem,h4],by simp only[go_sem,h12],dE hi hji hj',j',by simp only[go_sem],(aO hi hj').symm,?_⟩;rw[gP (show(!inR o.pick.place (-1) ((P:Int)-1)|| !inR o.drop.place (-1) ((P:Int)-1))=true from hb)];exact fR (l':=[11]) rfl
 · simp only[go_sem]
   refine hK _ _ ⟨by simp only[go_sem,h0],by simp only[go_sem,h1],by simp only[go_sem,h2],by simp only[go_sem,h3],by simp only[go_sem,h4],by simp only[go_sem,h12],hi,j,by simp only[go_sem,h11],hji,?_⟩;rw[gO (show(!inR o.pick.place (-1) ((P:Int)-1)|| !inR o.drop.place (-1) ((P:Int)-1))=false from hb),List.append_nil,hH]
 clear hH h0 h1 h2 h3 h4 h12 h11;rintro ρ H ⟨h0,h1,h2,h3,h4,h12,hi,j,h11,hji,hH⟩;generalize hes4:es3++opt (!inR o.pick.place (-1) ((P:Int)-1)|| !inR o.drop.place (-1) ((P:Int)-1)) (11:Int)=es4 at hH;have hln4:es4.length≤es3.length+1:=by rw[←hes4,List.length_append];have:=bW (!inR o.pick.place (-1) ((P:Int)-1)|| !inR o.drop.place (-1) ((P:Int)-1)) (11:Int);omega
 simp only[go_sem,h0,h1,h2,h3,h4,h12,h11,hi];refine bD (fun ρ' H'=>ρ' 0=int P∧ρ' 1=int d∧ρ' 2=int T∧ρ' 3=.sl (l.map aX)∧ρ' 4=int k∧ρ' 12=.op i 0 0∧H' i=some (mG o)∧∃j',ρ' 11=.os j'∧j'≠i∧H' j'=some (jF (es4++opt (o.pick.place == -1&&o.drop.place == -1) 19))) ?_ fun K hK=>aA (fun hb=>?_) (fun hb=>?_)
 rotate_left
 · simp only[go_sem,h0,h1,h2,h3,h4,h12,h11]
   refine bA hH ⟨rfl,rfl⟩ (by simp only[go_sem]) (by simp only[List.length_map,List.length_cons,List.length_nil];omega) (fun j' hj'=>?_);simp only[go_sem];refine hK _ _ ⟨by simp only[go_sem,h0],by simp only[go_sem,h1],by simp only[go_sem,h2],by simp only[go_sem,h3],by simp only[go_sem,h4],by simp only[go_sem,h12],dE hi hji hj',j',by simp only[go_sem],(aO hi hj').symm,?_⟩;rw[gP (show(o.pick.place == -1&&o.drop.place == -1)=true from hb)];exact fR (l':=[19]) rfl
 · simp only[go_sem]
   refine hK _ _ ⟨by simp only[go_sem,h0],by simp only[go_sem,h1],by simp only[go_sem,h2],by simp only[go_sem,h3],by simp only[go_sem,h4],by simp only[go_sem,h12],hi,j,by simp only[go_sem,h11],hji,?_⟩;rw[gO (show(o.pick.place == -1&&o.drop.place == -1)=false from hb),List.append_nil,hH]
 clear hH h0 h1 h2 h3 h4 h12 h11;rintro ρ H ⟨h0,h1,h2,h3,h4,h12,hi,j,h11,hji,hH⟩;generalize hes5:es4++opt (o.pick.place == -1&&o.drop.place == -1) (19:Int)=es5 at hH;have hln5:es5.length≤es4.length+1:=by rw[←hes5,List.length_append];have:=bW (o.pick.place == -1&&o.drop.place == -1) (19:Int);omega
 simp only[go_sem,h0,h1,h2,h3,h4,h12,h11,hi];refine PC.use (J7 _) ?_;simp only[go_sem,h0,h1,h2,h3,h4,h12,h11,hi];refine⟨_,fun _=>(J7 _).q rfl,?_⟩;simp only[go_sem,h0,h1,h2,h3,h4,h12,h11,hi];refine bD (fun ρ' H'=>ρ' 0=int P∧ρ' 1=int d∧ρ' 2=int T∧ρ' 3=.sl (l.map aX)∧ρ' 4=int k∧ρ' 12=.op i 0 0∧H' i=some (mG o)∧∃j',ρ' 11=.os j'∧j'≠i∧H' j'=some (jF (es5++opt (dW o.pick != 0||dW o.drop != 0) 14))) ?_ fun K hK=>aA (fun hb=>?_) (fun hb=>?_)
 rotate_left
 · simp only[go_sem,h0,h1,h2,h3,h4,h12,h11]
   refine bA hH ⟨rfl,rfl⟩ (by simp only[go_sem]) (by simp only[List.length_map,List.length_cons,List.length_nil];omega) (fun j' hj'=>?_);simp only[go_sem];refine hK _ _ ⟨by simp only[go_sem,h0],by simp only[go_sem,h1],by simp only[go_sem,h2],by simp only[go_sem,h3],by simp only[go_sem,h4],by simp only[go_sem,h12],dE hi hji hj',j',by simp only[go_sem],(aO hi hj').symm,?_⟩;rw[gP (show(dW o.pick != 0||dW o.drop != 0)=true from hb)];exact fR (l':=[14]) rfl
 · simp only[go_sem]
   refine hK _ _ ⟨by simp only[go_sem,h0],by simp only[go_sem,h1],by simp only[go_sem,h2],by simp only[go_sem,h3],by simp only[go_sem,h4],by simp only[go_sem,h12],hi,j,by simp only[go_sem,h11],hji,?_⟩;rw[gO (show(dW o.pick != 0||dW o.drop != 0)=false from hb),List.append_nil,hH]
 clear hH h0 h1 h2 h3 h4 h12 h11;rintro ρ H ⟨h0,h1,h2,h3,h4,h12,hi,j,h11,hji,hH⟩;generalize hes6:es5++opt (dW o.pick != 0||dW o.drop != 0) (14:Int)=es6 at hH;have hln6:es6.length≤es5.length+1:=by rw[←hes6,List.length_append];have:=bW (dW o.pick != 0||dW o.drop != 0) (14:Int);omega
 simp only[go_sem,h0,h1,h2,h3,h4,h12,h11,hi];refine PC.use (BP _ _ _) ?_;simp only[go_sem,h0,h1,h2,h3,h4,h12,h11,hi,mH (show P≤4611686018427387904 by omega)];refine bD (fun ρ' H'=>ρ' 0=int P∧ρ' 1=int d∧ρ' 2=int T∧ρ' 3=.sl (l.map aX)∧ρ' 4=int k∧ρ' 12=.op i 0 0∧H' i=some (mG o)∧∃j',ρ' 11=.os j'∧j'≠i∧H' j'=some (jF (es6++opt (!inR o.skills 0 1073741823) 18))) ?_ fun K hK=>aA (fun hb=>?_) (fun hb=>?_)
 rotate_left
 · simp only[go_sem,h0,h1,h2,h3,h4,h12,h11]
   refine bA hH ⟨rfl,rfl⟩ (by simp only[go_sem]) (by simp only[List.length_map,List.length_cons,List.length_nil];omega) (fun j' hj'=>?_);simp only[go_sem];refine hK _ _ ⟨by simp only[go_sem,h0],by simp only[go_sem,h1],by simp only[go_sem,h2],by simp only[go_sem,h3],by simp only[go_sem,h4],by simp only[go_sem,h12],dE hi hji hj',j',by simp only[go_sem],(aO hi hj').symm,?_⟩;rw[gP (show(!inR o.skills 0 1073741823)=true from hb)];exact fR (l':=[18]) rfl
 · simp only[go_sem]
   refine hK _ _ ⟨by simp only[go_sem,h0],by simp only[go_sem,h1],by simp only[go_sem,h2],by simp only[go_sem,h3],by simp only[go_sem,h4],by simp only[go_sem,h12],hi,j,by simp only[go_sem,h11],hji,?_⟩;rw[gO (show(!inR o.skills 0 1073741823)=false from hb),List.append_nil,hH]
 clear hH h0 h1 h2 h3 h4 h12 h11;rintro ρ H ⟨h0,h1,h2,h3,h4,h12,hi,j,h11,hji,hH⟩;generalize hes7:es6++opt (!inR o.skills 0 1073741823) (18:Int)=es7 at hH;have hln7:es7.length≤es6.length+1:=by rw[←hes7,List.length_append];have:=bW (!inR o.skills 0 1073741823) (18:Int);omega
 simp only[go_sem,h0,h1,h2,h3,h4,h12,h11,hi];refine PC.use (BP _ _ _) ?_;simp only[go_sem,h0,h1,h2,h3,h4,h12,h11,hi,mH (show P≤4611686018427387904 by omega)];refine⟨_,fun _=>(BP _ _ _).q rfl,?_⟩;simp only[go_sem,h0,h1,h2,h3,h4,h12,h11,hi,mH (show P≤4611686018427387904 by omega)];refine bD (fun ρ' H'=>ρ' 0=int P∧ρ' 1=int d∧ρ' 2=int T∧ρ' 3=.sl (l.map aX)∧ρ' 4=int k∧ρ' 12=.op i 0 0∧H' i=some (mG o)∧∃j',ρ' 11=.os j'∧j'≠i∧H' j'=some (jF (es7++opt (!inR o.penalty (-1) 1000000|| !inR o.split 1 4||decide (o.split>1)&&(o.pick.place != -1&&o.drop.place != -1)||decide (o.last< -1)||decide (o.last≥T)||decide (o.now< -1)||decide (o.now≥T)) 2))) ?_ fun K hK=>aA (fun hb=>?_) (fun hb=>?_)
 rotate_left
 · simp only[go_sem,h0,h1,h2,h3,h4,h12,h11]
   refine bA hH ⟨rfl,rfl⟩ (by simp only[go_sem]) (by simp only[List.length_map,List.length_cons,List.length_nil];omega) (fun j' hj'=>?_);simp only[go_sem];refine hK _ _ ⟨by simp only[go_sem,h0],by simp only[go_sem,h1],by simp only[go_sem,h2],by simp only[go_sem,h3],by simp only[go_sem,h4],by simp only[go_sem,h12],dE hi hji hj',j',by simp only[go_sem],(aO hi hj').symm,?_⟩;rw[gP (show(!inR o.penalty (-1) 1000000|| !inR o.split 1 4||decide (o.split>1)&&(o.pick.place != -1&&o.drop.place != -1)||decide (o.last< -1)||decide (o.last≥T)||decide (o.now< -1)||decide (o.now≥T))=true from hb)];exact fR (l':=[2]) rfl
 · simp only[go_sem]
   refine hK _ _ ⟨by simp only[go_sem,h0],by simp only[go_sem,h1],by simp only[go_sem,h2],by simp only[go_sem,h3],by simp only[go_sem,h4],by simp only[go_sem,h12],hi,j,by simp only[go_sem,h11],hji,?_⟩;rw[gO (show(!inR o.penalty (-1) 1000000|| !inR o.split 1 4||decide (o.split>1)&&(o.pick.place != -1&&o.drop.place != -1)||decide (o.last< -1)||decide (o.last≥T)||decide (o.now< -1)||decide (o.now≥T))=false from hb),List.append_nil,hH]
 clear hH h0 h1 h2 h3 h4 h12 h11;rintro ρ H ⟨h0,h1,h2,h3,h4,h12,hi,j,h11,hji,hH⟩;generalize hes8:es7++opt (!inR o.penalty (-1) 1000000|| !inR o.split 1 4||decide (o.split>1)&&(o.pick.place != -1&&o.drop.place != -1)||decide (o.last< -1)||decide (o.last≥T)||decide (o.now< -1)||decide (o.now≥T)) (2:Int)=es8 at hH;have hln8:es8.length≤es7.length+1:=by rw[←hes8,List.length_append];have:=bW (!inR o.penalty (-1) 1000000|| !inR o.split 1 4||decide (o.split>1)&&(o.pick.place != -1&&o.drop.place != -1)||decide (o.last< -1)||decide (o.last≥T)||decide (o.now< -1)||decide (o.now≥T)) (2:Int);omega
 simp only[go_sem,h0,h1,h2,h3,h4,h12,h11,hi];have hall:jB P d T l k o=es8:=by unfold jB;rw[hes0,hes1,hes2,hes3,hes4,hes5,hes6,hes7,hes8]
 rw[hall];exact .row _ _ _ hH (ConvE.refl _)
def jR(w:ByteArray)(f:Fault):Fault:=⟨f.err,match f.at_.toList == (⟨#[]⟩:ByteArray).toList with|true=>w|false=>w++⟨#[32]⟩++f.at_⟩
theorem Bn(w:ByteArray)(l:List Fault)(hw:w.size≤1048576)(hl:l.length≤5000000000000)(hs:∀f∈l,f.at_.size≤268435456):
   NC Tryz.prog 29 [str w,.sl (l.map fI)] (aY (l.map (jR w))) .os:=by
 refine NC.body (c:=Tryz.f29.body.getD .skip) (fun t=>t == 5) mixed Tryz.func29 rfl (by kernel_rfl) ?_;unfold Tryz.f29;simp only[Option.getD_some];simp only[go_sem];refine aN fun j hj=>?_
 simp only[go_sem];refine⟨fun ρ H=>∃k:Nat,k≤l.length∧ρ 0=str w∧ρ 1=.sl (l.map fI)∧ρ 6=int k∧∃j,ρ 5=.os j∧H j=some (aY ((l.take k).map (jR w))),fun ρ _=>l.length-bQ (ρ 6),⟨0,Nat.zero_le _,rfl,rfl,rfl,j,rfl,aB _ _ _⟩,?_⟩;clear hj;rintro ρ H ⟨k,hk,h0,h1,h6,j,h5,hH⟩;simp only[go_sem,h0,h1,h6,h5];refine aA (fun hlt=>?_) (fun hge=>?_)
 · have hlt:=cA hlt
   obtain⟨f,hf⟩:=bC hlt;have b1:=inB hlt;have hfs:=hs f (iO hf);simp only[go_sem,h0,h1,h6,b1,aH hf];refine bD (fun ρ' H'=>ρ' 0=str w∧ρ' 1=.sl (l.map fI)∧ρ' 6=int k∧ρ' 5=.os j∧ρ' 7=str (jR w f).at_∧H'=H) ?_ fun K hK=>aA (fun hb=>?_) (fun hb=>?_)
   · clear h0 h1 h6 h5
     rintro ρ H ⟨h0,h1,h6,h5,h7,rfl⟩;simp only[go_sem,h0,h1,h6,h5,h7,b1,aH hf];refine bA hH ⟨rfl,rfl⟩ (by simp only[go_sem]) (by simp only[List.length_map,List.length_take,List.length_cons,List.length_nil];omega) (fun j' hj'=>?_);simp only[go_sem,h0,h1,h6,bG (show k≤4611686018427387904 by omega)];refine⟨⟨k+1,hlt,rfl,j',rfl,?_⟩,by simp only[aI];omega⟩;rw[yA hf];exact dT (l':=[jR w f]) rfl
   · simp only[go_sem,h0,h1,h6,b1,aH hf]
     have h32:(#[32]:Array UInt8).size=1:=rfl;refine⟨by rw[sP];omega,by rw[sP];omega,hK _ _ ⟨by simp only[go_sem,h0],by simp only[go_sem,h1],by simp only[go_sem,h6],by simp only[go_sem,h5],?_,rfl⟩⟩;have hc:(f.at_.toList == (⟨#[]⟩:ByteArray).toList)=false:=by have:=hb;revert this;cases(f.at_.toList == (⟨#[]⟩:ByteArray).toList) <;> simp
     simp only[go_sem,jR,hc]
   · simp only[go_sem]
     refine hK _ _ ⟨by simp only[go_sem,h0],by simp only[go_sem,h1],by simp only[go_sem,h6],by simp only[go_sem,h5],?_,rfl⟩;have hc:(f.at_.toList == (⟨#[]⟩:ByteArray).toList)=true:=by have:=hb;revert this;cases(f.at_.toList == (⟨#[]⟩:ByteArray).toList) <;> simp
     simp only[go_sem,jR,hc]
 · have hge:=cF hk hge
   subst hge;simp only[go_sem,h5];exact⟨_,rfl,by rw[hH,List.take_length]⟩
def Pl(l:List Order)(i:Nat):Order:=l.getD i ⟨ByteArray.empty,[],⟨0,0,0,0⟩,⟨0,0,0,0⟩,0,0,0,0,0,false⟩
theorem Cm{l:List Order}{k:Nat}{p:Order}(h:l[k]?=some p):Pl l k=p:=by simp[Pl,List.getD,h]
def fD(n:Network)(d T:Int)(l:List Order)(k:Nat):List Fault:=(jB n.places.length d T l k (Pl l k)).map fun e=>⟨e,iR k⟩
def nI(n:Network)(d T:Int)(l:List Order):List Fault:=opt (decide ((l.length:Int)>10)) ⟨4,ByteArray.empty⟩++(List.range l.length).flatMap (fD n d T l)
theorem qZ(P:Nat)(d T:Int)(l:List Order)(k:Nat)(o:Order):(jB P d T l k o).length≤9:=by
 unfold jB;simp only[List.length_append,List.length_nil];have h:=fun(b:Bool) (x:Int)=>bW b x
 have h1:=h (!jS o.name) 5;have h2:=h (wQ l k o.name) 6;have h3:=h (!dL o.load d) 17;have h4:=h (!inR o.pick.place (-1) ((P:Int)-1)|| !inR o.drop.place (-1) ((P:Int)-1)) 11;have h5:=h (o.pick.place == -1&&o.drop.place == -1) 19;have h6:=h (dW o.pick != 0||dW o.drop != 0) 14;have h7:=h (!inR o.skills 0 1073741823) 18;have h8:=h (!inR o.penalty (-1) 1000000|| !inR o.split 1 4||decide (o.split>1)&&(o.pick.place != -1&&o.drop.place != -1)||decide (o.last< -1)||decide (o.last≥T)||decide (o.now< -1)||decide (o.now≥T)) 2;omega
theorem SR(n:Network)(d T:Int)(l:List Order)(hl:l.length≤1048576)(hs:∀t∈l,t.name.size≤1048576∧t.load.length≤1048576)(hp:n.places.length≤1048576):
   NC Tryz.prog 32 [.agg (aP n),int d,int T,.sl (l.map aX)] (aY (nI n d T l)) .os:=by
 refine NC.body (c:=Tryz.f32.body.getD .skip) (fun t=>t == 9) mixed Tryz.func32 rfl (by kernel_rfl) ?_;unfold Tryz.f32;simp only[Option.getD_some];simp only[go_sem];refine aN fun j hj=>?_
 simp only[go_sem];refine mZ (fun ρ' H'=>ρ' 1=int d∧ρ' 2=int T∧ρ' 3=.sl (l.map aX)∧ρ' 4=.rp (aP n) 0∧∃j',ρ' 9=.os j'∧H' j'=some (aY [])) ⟨by simp only[go_sem],by simp only[go_sem],by simp only[go_sem],by simp only[go_sem],_,by simp only[go_sem],aB _ _ _⟩ ?_;rintro ρ H ⟨h1,h2,h3,h4,j,h9,hH⟩;generalize hes0:([]:List Fault)=es0 at hH;have hln0:es0.length≤0:=by rw[←hes0];exact Nat.le_refl _
 refine bD (fun ρ' H'=>ρ' 1=int d∧ρ' 2=int T∧ρ' 3=.sl (l.map aX)∧ρ' 4=.rp (aP n) 0∧∃j',ρ' 9=.os j'∧H' j'=some (aY (es0++opt (decide ((l.length:Int)>10)) ⟨4,ByteArray.empty⟩))) ?_ fun K hK=>aA (fun hb=>?_) (fun hb=>?_)
 rotate_left
 · simp only[go_sem,h1,h2,h3,h4,h9]
   refine bA hH ⟨rfl,rfl⟩ (by simp only[go_sem]) (by simp only[List.length_map,List.length_cons,List.length_nil];omega) (fun j' hj'=>?_);simp only[go_sem];refine hK _ _ ⟨by simp only[go_sem,h1],by simp only[go_sem,h2],by simp only[go_sem,h3],by simp only[go_sem,h4],j',by simp only[go_sem],?_⟩;rw[gP (show(decide ((l.length:Int)>10))=true from hb)];exact dT (l':=[⟨4,ByteArray.empty⟩]) rfl
 · simp only[go_sem]
   refine hK _ _ ⟨by simp only[go_sem,h1],by simp only[go_sem,h2],by simp only[go_sem,h3],by simp only[go_sem,h4],j,by simp only[go_sem,h9],?_⟩;rw[gO (show(decide ((l.length:Int)>10))=false from hb),List.append_nil,hH]
 clear hH h1 h2 h3 h4 h9;rintro ρ H ⟨h1,h2,h3,h4,j,h9,hH⟩;generalize hes1:es0++opt (decide ((l.length:Int)>10)) (⟨4,ByteArray.empty⟩:Fault)=es1 at hH;have hln1:es1.length≤es0.length+1:=by rw[←hes1,List.length_append];have:=bW (decide ((l.length:Int)>10)) (⟨4,ByteArray.empty⟩:Fault);omega
 simp only[go_sem,h1,h2,h3,h4];refine⟨fun ρ H=>∃k:Nat,k≤l.length∧ρ 1=int d∧ρ 2=int T∧ρ 3=.sl (l.map aX)∧ρ 4=.rp (aP n) 0∧ρ 10=int k∧∃j,ρ 9=.os j∧H j=some (aY (es1++(List.range k).flatMap (fD n d T l))),fun ρ _=>l.length-bQ (ρ 10),⟨0,Nat.zero_le _,by simp only[go_sem,h1],by simp only[go_sem,h2],by simp only[go_sem,h3],by simp only[go_sem,h4],by simp only[go_sem];rfl,j,by simp only[go_sem,h9],by simpa using hH⟩,?_⟩;clear hH h1 h2 h3 h4 h9 hj;rintro ρ H ⟨k,hk,h1,h2,h3,h4,h10,j,h9,hH⟩;generalize hes:es1++(List.range k).flatMap (fD n d T l)=es at hH;have hlen:es.length≤9*k+1:=by
   have:=dV (f:=fD n d T l) (c:=9) (fun x=>by unfold fD;rw[List.length_map];exact qZ _ _ _ _ _ _) (List.range k);rw[←hes,List.length_append];rw[List.length_range]at this;omega
 simp only[go_sem,h1,h2,h3,h4,h10,h9];refine aA (fun hlt=>?_) (fun hge=>?_)
 · have hlt:=cA hlt
   have hkk:k≤4611686018427387904:=by omega
   have hfl:es1++(List.range (k+1)).flatMap (fD n d T l)=es++fD n d T l k:=by rw[gG,←List.append_assoc,hes]
   simp only[go_sem,h1,h2,h3,h4,h10];obtain⟨o,ho⟩:=bC hlt;rw[←Cm ho]at ho;refine PC.use (PA n.places.length d T l k _ ho hp hl hs) ?_;simp only[go_sem];have hel:=qZ n.places.length d T l k (Pl l k);have htf:fD n d T l k=(jB n.places.length d T l k (Pl l k)).map fun e=>⟨e,iR k⟩:=rfl
   generalize jB n.places.length d T l k (Pl l k)=er at hel htf;refine⟨fun ρ H=>∃m:Nat,m≤er.length∧ρ 1=int d∧ρ 2=int T∧ρ 3=.sl (l.map aX)∧ρ 4=.rp (aP n) 0∧ρ 10=int k∧ρ 11=.sl (er.map aM)∧ρ 12=int m∧∃j,ρ 9=.os j∧H j=some (aY (es++(er.take m).map fun e=>⟨e,iR k⟩)),fun ρ _=>er.length-bQ (ρ 12),⟨0,Nat.zero_le _,by simp only[go_sem,h1],by simp only[go_sem,h2],by simp only[go_sem,h3],by simp only[go_sem,h4],by simp only[go_sem,h10],by simp only[go_sem],by simp only[go_sem];rfl,j,by simp only[go_sem,h9],by simpa using hH⟩,?_⟩;clear hH h1 h2 h3 h4 h9 h10;rintro ρ H ⟨m,hm,h1,h2,h3,h4,h10,h11,h12,j,h9,hH⟩;simp only[go_sem,h1,h2,h3,h4,h10,h9,h11,h12];refine aA (fun hlt2=>?_) (fun hge2=>?_)
   · have hlt2:=cA hlt2
     obtain⟨e,he⟩:=bC hlt2;have b2:=inB hlt2;simp only[go_sem];refine Ft (by kernel_rfl) ?_;simp only[go_sem,h1,h2,h3,h4,h10,h9,h11,h12,b2,aH he];refine⟨_,(oX _ (by omega)).q rfl,?_⟩;simp only[go_sem];refine bA hH ⟨rfl,rfl⟩ (by simp only[go_sem]) (by simp only[List.length_map,List.length_append,List.length_take,List.length_cons,List.length_nil];omega) (fun j' hj'=>?_);simp only[go_sem,h1,h2,h3,h4,h10,h11,h12,bG (show m≤4611686018427387904 by omega)];refine⟨⟨m+1,hlt2,rfl,j',rfl,?_⟩,by simp only[aI];omega⟩;rw[yA he,←List.append_assoc];exact dT (l':=[⟨e,iR k⟩]) rfl
   · have hge2:=cF hm hge2
     subst hge2;simp only[go_sem,h1,h2,h3,h4,h10,h9,bG hkk];refine⟨⟨k+1,hlt,rfl,j,rfl,?_⟩,by simp only[aI];omega⟩;rw[hfl,hH,htf,List.take_length]
 · have hge:=cF hk hge
   subst hge;simp only[go_sem,h9];exact⟨_,rfl,by rw[hH,←hes,←hes1,←hes0];rfl⟩
end Go.Proofs.YtdlijlecpopadaaGreatDoor
