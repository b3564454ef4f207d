import Derived.StillTail
import Derived.Deep.Quiet
import Derived.Scope
import Derived.Test.YthephioccidfgaaGreatDoorChecked
import Derived.KernelRfl
import Derived.Test.YthephioccidfgaaGreatDoorVs02
set_option linter.unusedSimpArgs false
set_option linter.unusedVariables false
set_option linter.defProp false
set_option maxRecDepth 100000
section
namespace Go.Aw
open Go.RowKit
section
variable{P:Program}{n:Nat}{S0:Sg}{w0:World}{H0:aG}{mt:Nat->Bool}{ops:Array Oper}{K:Env->aG->Prop}{K':Act->World->Prop}{Q':Exit->Act->World->Prop}{ρ:Env}{H:aG}{a:Act}{w:World}{o:Oper}{S:Sg}
def Ae{w':World}(h:(execOp a.eval o).run P w=.ok .skip w')(A:K' (a.put o.dst undef) w'):o.wp P a w K' Q':=by unfold Oper.wp;rw[h];exact A
theorem alA{s:Sem Value}{v:Value}{w w':World}(h:s.run P w=.ok v w'):(do pure (Next.value (<-s)):Sem Next).run P w=.ok (.value v) w':=by simp[h]
def PG{t:TypeId}{l:Option Nat}(J:ldT P t=some l){v:Value}{vs:List Value}(T:v.cells=List.toArray vs)(E:vs.length=l.getD 1){g p:Nat}{w w':World}(A:l=none->∃i,P.info? t=some i/\i.size=1)
  (U:(storeCells ⟨g,p,none⟩ vs).run P w=.ok () w'):(Instr.storeAt t (.pointer (some ⟨g,p,none⟩)) v).run P w=.ok () w':=by
 have F:(sizeOf t).run P w=.ok vs.length w:=by
  cases l with
  | none=>obtain⟨i,O,h1⟩:=A rfl;simp_all[sizeOf,typeInfo]
  | some m=>grind[yL]
 simp_all[Instr.storeAt,Instr.sureAddr,storeVar]
theorem B7(z:Array Value)(A:0<z.size):∀m,(madeCells z (m*z.size)).toList=(List.replicate m z.toList).flatten
 | 0=>by simp[madeCells]
 | m+1=>by
  have ih:=B7 z A m;rw[show List.replicate (m+1) z.toList=List.replicate m z.toList++[z.toList]from List.replicate_succ',List.flatten_append,<-ih];simp only[madeCells,Array.toList_map,Array.toList_range,Nat.add_mul,Nat.one_mul,List.flatten_cons,List.flatten_nil,List.append_nil];rw[List.range_add,List.map_append]
  congr 1
  apply List.ext_getElem
  all_goals simp_all[Nat.mod_eq_of_lt]
def JA:∀(cs:List AV) (l:List Value) (j:Nat) {x:AV},bJ S w cs l->(∀u,l[j]?=some u->rep S w x u)->bJ S w (cs.set j x) l
 | [],_,_,_,h,_=>h
 | y::r,l,0,x,h,hx=>by grind[bJ]
 | y::r,l,j+1,x,h,hx=>by simp only[bJ,List.set_cons_succ]at h |-;obtain⟨u,t,rfl,h1,A⟩:=h;exact⟨u,t,rfl,h1,JA r t j A fun u E=>hx u (by simpa using E)⟩
def tB:∀(nl:List (Nat×TypeId×Nat)) (z:List AV) (S:Sg) (H:aG) (vs:List Value) {K:List AV->aG->Prop},(∀x∈nl,vs[x.1]?=some (.slice none 0 0)/\0<x.2.2)->St S w H->bJ S w z vs->lE nl z H K ->
  ∃E S' H',K E H'/\St S' w H'/\Grow S w S' w/\gC S.N H H'/\bJ S' w E vs/\E.length=z.length
 | [],z,S,H,vs,K,_,hS,hr,h=>⟨z,S,H,h,hS,Grow.refl S w,gC.refl _ _,hr,rfl⟩
 | x::r,z,S,H,vs,K,hn,hS,hr,h=>by obtain⟨h0,A⟩:=hn x (by simp);have q:=hS.nilRow x.2.1 A;have F:=JA z vs x.1 (x:=.os S.N) (eG q.2.le (q.2.kept hS) _ _ hr) (fun u Y=>by simp_all[rep,Sg.addRow]);obtain⟨E,S',H',h1,O,h3,T,U,J⟩:=tB r _ _ _ vs (fun y X=>hn y (by simp[X])) q.1 F (h S.N hS.fresh);exact⟨E,S',H',h1,O,q.2.trans h3,(rB hS).trans T q.2.le.N,U,by simpa using J⟩
def Ei{P:Program}{t:TypeId}{nl:List (Nat×TypeId×Nat)}(h:uO P t=some nl){i:TypeInfo}{v:Value}(J:P.info? t=some i)(E:i.zero=some v):∀x∈nl,v.cells.toList[x.1]?=some (.slice none 0 0)/\0<x.2.2:=by
 unfold uO at h;rw[J]at h;simp only[E]at h;split at h
 ·rename_i A;injection h with h;subst h;intro x F;have:=List.all_eq_true.1 A x F;simp only[Bool.and_eq_true,decide_eq_true_eq]at this
  grind[aqS]
 grind
def SY{t:TypeId}{z:List AV}(hS:St S w H)(hF:FR S w ρ a)(hG:Grow S0 w0 S w)(hN:gC S0.N H0 H)(hd:a.defers=[])(hn:a.tmps.size=n)(ho:o.op=.alloc t)(hz:dH P t=some z)
  (hw:Region.wanted o (yielded ops a.tmps)=true) (hK:∀F H' Y w',K F H'->Rel n S0 w0 H0 F H' Y w'->K' Y w') {nl:List (Nat×TypeId×Nat)} (X:uO P t=some nl)
  (h:lE nl z H fun z H=>rV H ⟨t,z.length,[z]⟩ fun k H'=>K (upd ρ o.dst (.op k 0 0)) H'):Bx P ops o a w K' Q':=by
 obtain⟨i,v,hi,T,rfl,aa,ab,h1⟩:=pL hz;have Z:(Instr.alloc t true (.tuple #[])).run P w=.ok (.pointer (some ⟨w.heap.size,0,none⟩)) (w.alloc (.cells v.cells t)):=by simp_all[Instr.alloc,zeroValue,typeInfo,newVar,newRow]
 have J:∀x∈nl,v.cells.toList[x.1]?=some (.slice none 0 0)/\0<x.2.2:=Ei X hi T;obtain⟨z',S',H',q0,A,E,U,O,ac⟩:=tB nl _ S H v.cells.toList J hS (oE _) h;obtain⟨S2,q1,q2,q3⟩:=GX (t:=t) (cs:=z') (l:=v.cells.toList) A (by grind) O h1;refine gD hw (dV (v:=.pointer (some ⟨w.heap.size,0,none⟩)) (w':=w.alloc (.cells v.cells t)) (by simp_all[execOp]) (hK _ _ _ _ (q0 S'.N A.fresh) (Rel.step A (hF.keep E.le (E.kept hS)) (hG.trans E) (hN.trans U hG.le.N) hd hn (by omega) (by omega) (rB A) (by omega))))
def HE{t:TypeId}{x y:Operand}{x':AV}{cs:List AV}{l:List Value}(X:St S w H)(hF:FR S w ρ a)(hG:Grow S0 w0 S w)(hN:gC S0.N H0 H)(hd:a.defers=[])(hn:a.tmps.size=n)(ho:o.op=.store t x y)
  (hw:Region.wanted o (yielded ops a.tmps)=true) (hK:∀J H' Y w',K J H'->Rel n S0 w0 H0 J H' Y w'->K' Y w') (ex:rep S w x' (a.eval x)) (e1:(a.eval y).cells=l.toArray) (e2:bJ S w cs l) (e3:∀u∈l,u.oneCell'=true)
  (T:BJ P o t x' cs ρ H K):Bx P ops o a w K' Q':=by
 unfold BJ at T;split at T
 ·rename_i k i f;split at T
  ·rename_i r ld Z U;obtain⟨⟨c1,c2,c3,c4⟩,h5⟩:=T;simp only[rep]at ex;obtain⟨_,g,m,c,E,ep⟩:=ex;obtain⟨g',n',c',w',A,F,q1,q2⟩:=X.store Z c1 c3 E e2 e3;rw[E]at A;injection A with O i2 i3;injection O with O;injection O with O;subst O;rw[<-(X.rows k r Z).sz]at ep;have aa:=PG (P:=P) U e1 (by grind[iK]) (by omega) (F P);refine gD hw (Ae (w':=w') ?_ (hK _ _ _ _ h5 (Rel.step X hF hG hN hd hn q1 q2 ?_ (by grind[rep]))))
   ·simp_all[execOp]
   ·intro j _ h0
    grind[aD]
  grind
 grind
def ZU:∀(x:List AV) (l:List Value) (j:Nat) (v:Value),bJ S w x l->x[j]?=some (.v v)->l[j]?=some v
 | [],_,_,_,_,h=>by grind
 | a::r,l,0,v,h,hx=>by grind[bJ,rep]
 | a::r,l,j+1,v,h,hx=>by simp only[bJ]at h;obtain⟨u,t,rfl,h1,A⟩:=h;simpa using ZU r t j v A (by simpa using hx)
def Fj{t:TypeId}{x y:Operand}{x':AV}{cs:List AV}{l:List Value}(O:St S w H)(hF:FR S w ρ a)(T:Grow S0 w0 S w)(hN:gC S0.N H0 H)(hd:a.defers=[])(hn:a.tmps.size=n)(ho:o.op=.store t x y)
  (hw:Region.wanted o (yielded ops a.tmps)=true) (hK:∀E H' a' w',K E H'->Rel n S0 w0 H0 E H' a' w'->K' a' w') (ex:rep S w x' (a.eval x)) (e1:(a.eval y).cells=l.toArray) (Z:bJ S w cs l) (e3:∀u∈l,u.oneCell'=true)
  (F:xX P o t x' cs ρ H K):Bx P ops o a w K' Q':=by
 rcases F with F|⟨_,nl,J,F⟩
 ·exact HE O hF T hN hd hn ho hw hK ex e1 Z e3 F
 ·obtain⟨z',S',H',q0,U,A,Y,X,aa⟩:=tB nl _ S H l (fun x hx=>⟨ZU _ _ _ _ Z (J x hx).1,(J x hx).2⟩) O Z F;exact HE U (hF.keep A.le (A.kept O)) (T.trans A) (hN.trans Y T.le.N) hd hn ho hw hK (nS A.le (A.kept O) _ _ ex) e1 X e3 q0
def Mo{w:World}:∀(nl:List (Nat×TypeId×Nat)) (z:List AV) (vs:List Value),(∀x∈nl,vs[x.1]?=some (.slice none 0 0))->bJ S w z vs->bJ S w (Mc nl z) vs
 | [],z,vs,_,h=>h
 | x::r,z,vs,hn,h=>Mo r _ vs (fun y E=>hn y (by grind)) (JA z vs x.1 h fun u A=>by grind[rep])
def Hl{o:Oper}{w1:World}{t:TypeId}{A:Array (Nat×Operand)}(X:FR S w1 ρ a)(hb:∀x∈o.op.operands,opB a.tmps.size x=true)(ho:o.op=.build t A)
  (h:CK P o t A.toList ρ H K):∃z,K (upd ρ o.dst z) H/\∃v,rep S w1 z v/\∀w,(execOp a.eval o).run P w=.ok (.value v) w:=by
 unfold CK at h;obtain⟨ps,h,F⟩:=qR X A.toList (fun p hp=>hb p.2 (by grind[Op.operands])) h;split at h
 ·rename_i z pl nl Y J T;obtain⟨Z,e2⟩:=F trivial;obtain⟨i,v,U,E,rfl,aa,ab,h1⟩:=pL Y;split at h
  ·rename_i cs O;obtain⟨A',f1,f2,f3⟩:=yP (S:=S) (w:=w1) U E h1 (Mo nl _ _ (fun x hx=>(Ei T U E x hx).1) (oE _)) J O Z (fun j i c hj=>e2 j i c hj);refine⟨_,h,.agg A',?_,fun w=>?_⟩
   ·grind[rep]
   simp_all[execOp,run_build]
  grind
 grind
def OE{t:TypeId}{A:Array (Nat×Operand)}(O:St S w H)(J:FR S w ρ a)(Z:Grow S0 w0 S w)(hN:gC S0.N H0 H)(U:a.defers=[])(hn:a.tmps.size=n)(ho:o.op=.build t A)(T:∀x∈o.op.operands,opB a.tmps.size x=true)
  (hw:Region.wanted o (yielded ops a.tmps)=true) (X:∀E H' F w',K E H'->Rel n S0 w0 H0 E H' F w'->K' F w') (h:CK P o t A.toList ρ H K):Bx P ops o a w K' Q':=by
 obtain⟨z,hz,v,Y,hq⟩:=Hl (S:=S) (w1:=w) J T ho h;exact gD hw (dV (v:=v) (w':=w) (hq w) (X _ _ _ _ hz (Rel.step O J Z hN U hn O (Grow.refl S w) (gC.refl _ _) Y)))
def Ql{t:TypeId}{A:Array (Nat×Operand)}(Y:St S w H)(hF:FR S w ρ a)(hG:Grow S0 w0 S w)(hN:gC S0.N H0 H)(hd:a.defers=[])(hn:a.tmps.size=n)(ho:o.op=.build t A)(hb:∀x∈o.op.operands,opB a.tmps.size x=true)
  (hw:Region.wanted o (yielded ops a.tmps)=true) (hK:∀J H' a' w',K J H'->Rel n S0 w0 H0 J H' a' w'->K' a' w') (h:Fh P o t A.toList ρ H K):Bx P ops o a w K' Q':=by
 unfold Fh at h;obtain⟨ps,h,U⟩:=qR hF A.toList (fun p hp=>hb p.2 (by grind[Op.operands])) h;split at h
 ·rename_i z pl nl hz X ab;obtain⟨e1,e2⟩:=U trivial;obtain⟨i,v,hi,O,rfl,ac,ae,h1⟩:=pL hz;obtain⟨z',S',H',q0,F,E,aa,T,af⟩:=tB nl _ S H v.cells.toList (Ei ab hi O) Y (oE _) h;split at q0
  ·rename_i cs Z;obtain⟨A',f1,f2,f3⟩:=yP (S:=S') (w:=w) (z:=z') hi O h1 T X Z e1 (fun j i c hj=>by obtain⟨u,l,g1,g2,g3,g4⟩:=e2 j i c hj;exact⟨u,l,g1,g2,eG E.le (E.kept Y) _ _ g3,g4⟩);refine gD hw (dV (v:=.agg A') (w':=w) ?_ (hK _ _ _ _ q0 (Rel.step F (hF.keep E.le (E.kept Y)) (hG.trans E) (hN.trans aa hG.le.N) hd hn F (Grow.refl S' w) (gC.refl _ _) ?_)))
   ·simp_all[execOp,run_build]
   grind[rep]
  grind
 grind
def Iz{t:TypeId}{x:Operand}{K2:AV->Prop}(F:St S w H)(Z:FR S w ρ a)(hG:Grow S0 w0 S w)(hN:gC S0.N H0 H)(hd:a.defers=[])(hn:a.tmps.size=n)(ho:o.op=.store t x (.const (.slice none 0 0)))(hb:∀x∈o.op.operands,opB a.tmps.size x=true)
   (hw:Region.wanted o (yielded ops a.tmps)=true) (hK:∀A H' Y w',K A H'->Rel n S0 w0 H0 A H' Y w'->K' Y w')
   (h : bU none (aev ρ x) fun y => match cA P t with
       | some (e,sz,_)=>rV H ⟨e,sz,[]⟩ fun k H=>xX P o t y [.os k] ρ H K
       | none=>False):Bx P ops o a w K' Q':=by
 obtain⟨x',X,J⟩:=aT (S:=S) (w:=w) h;have O:opB a.tmps.size x=true:=hb x (by grind[Op.operands]);have ex:=J trivial _ (cV Z O);split at X
 . rename_i e sz U he;obtain⟨i,z,hu,hi,aa,_,E,_⟩:=gM he;have q:=F.nilRow e E;have h3:=X S.N F.fresh;have T:=rB F (r:=some ⟨e,sz,[]⟩);refine Fj q.1 (Z.keep q.2.le (q.2.kept F)) (hG.trans q.2) (hN.trans T hG.le.N) hd hn ho hw hK (nS q.2.le (q.2.kept F) _ _ ex) (l:=[.slice none 0 0]) (by rfl) ?_ (by simp[Value.oneCell']) h3;simp[bJ,rep,Sg.addRow]
 grind
def Qr{x:Operand}(J:St S w H)(hF:FR S w ρ a)(hG:Grow S0 w0 S w)(hN:gC S0.N H0 H)(hd:a.defers=[])(hn:a.tmps.size=n)(ho:o.op=.move x)(hb:∀x∈o.op.operands,opB a.tmps.size x=true)
  (hw:Region.wanted o (yielded ops a.tmps)=true) (hK:∀U H' a' w',K U H'->Rel n S0 w0 H0 U H' a' w'->K' a' w') (h:C0 x ρ o.dst H K):Bx P ops o a w K' Q':=by
 unfold C0 at h;split at h
 ·rename_i t;split at h
  ·rename_i j hj;split at h
   ·rename_i r hr;have ae:=hb (.tmp t) (by grind[Op.operands]);have hv:rep S w (ρ t) (a.eval (.tmp t)):=cV (x:=.tmp t) hF ae;rw[hj]at hv
    let Hf:aG:=fun k=>if k=j then H k else none
    let Hr:aG:=fun k=>if k=j then none else H k
    have T:∀k r',Hf k=some r'->k=j/\H k=some r':=fun k r' A=>by grind
    have F:∀k r',Hr k=some r'->k≠j/\H k=some r':=fun k r' A=>by grind
    have af:St S w Hf:=J.drop fun k r' A=>(T k r' A).2
    have Y:rep (S.froze Hf) w (.sl r.es) (a.eval (.tmp t)):=Conv.rep af (Conv.row j r r.es (by grind) (ConvE.refl _)) hv;have O:St (S.froze Hf) w Hr:=by
     refine⟨?_,?_,fun k r' A=>(J.rows k r' (F k r' A).2).keep (S.le_froze Hf) (gZ.refl S w) (fun _ _=>rfl),?_,fun k k' r1 r2 A aa ab g E Z=>J.disj k k' r1 r2 (F k r1 A).2 (F k' r2 aa).2 ab g E Z,J.tabs.keep (S.le_froze Hf) (gZ.refl S w)⟩
     ·rintro g (E|E)
      ·exact .inl (J.ro_fz g E)
      ·exact .inr E
     ·rintro g (E|⟨k,r',A,E⟩)
      ·exact J.fz_lt g E
      ·exact(J.rows k r' (T k r' A).2).block_lt E
     ·rintro k r' A g E (h1|⟨i,r2,hi,h2⟩)
      ·exact J.free k r' (F k r' A).2 g E h1
      ·exact J.disj k i r' r2 (F k r' A).2 (T i r2 hi).2 (fun e=>(F k r' A).1 (e.trans (T i r2 hi).1)) g E h2
    have E:Grow S w (S.froze Hf) w:=by
     refine⟨S.le_froze Hf,fun k A=>.inl A,rfl,rfl,rfl,Nat.le_refl _,fun _ _=>rfl,?_⟩;rintro g (E|⟨k,r',A,E⟩)
     ·grind
     ·exact .inr (J.free k r' (T k r' A).2 g E)
    have ac:FR (S.froze Hf) w (upd ρ (some t) (.sl r.es)) a:=fun t' X=>by
     by_cases e:t'=t
     ·simp_all[upd,Act.eval]
     ·simp only[upd,if_neg e];exact(hF.keep (S.le_froze Hf) (gZ.refl S w)) t' X
    have A:=h Hr (by grind) (fun k A=>by grind);refine gD hw (dV (v:=a.eval (.tmp t)) (w':=w) ?_ (hK _ _ _ _ A (Rel.step O ac (hG.trans E) (hN.trans (fun k _ h0=>by grind) hG.le.N) hd hn O (Grow.refl _ _) (gC.refl _ _) Y)));simp[execOp,ho]
   grind
  grind
 grind
def JS{l:List Nat}:∀{xs A:List AV},M9 l H xs A->ConvL (fun k=>if k∈l then H k else none) xs A
 | [],[],_=>.nil
 | x::xs,y::A,h=>by
  simp only[M9]at h;obtain⟨h1,E⟩:=h;refine .cons _ _ _ _ ?_ (JS E);rcases h1 with rfl|⟨j,r,F,rfl,J,rfl⟩
  ·exact .refl _
  ·exact .row j r r.es (by grind) (ConvE.refl _)
 | [],_::_,h=>by grind[M9]
 | _::_,[],h=>by grind[M9]
def anH{x y:AV}{d:Option Nat}{l:List Nat}{U:Act}{w':World}(hR:Rel n S0 w0 H0 (upd ρ d x) H U w')(hc:Conv (fun k=>if k∈l then H k else none) x y):Rel n S0 w0 H0 (upd ρ d y) (fun k=>if k∈l then none else H k) U w':=by
 obtain⟨S,J,hF,hG,hN,hd,hn⟩:=hR
 let Hf:aG:=fun k=>if k∈l then H k else none
 let Hr:aG:=fun k=>if k∈l then none else H k
 have T:∀k r',Hf k=some r'->k∈l/\H k=some r':=fun k r' E=>by grind
 have F:∀k r',Hr k=some r'->¬k∈l/\H k=some r':=fun k r' E=>by grind
 have ac:St S w' Hf:=J.drop fun k r' E=>(T k r' E).2
 have Z:St (S.froze Hf) w' Hr:=by
  refine⟨?_,?_,fun k r' E=>(J.rows k r' (F k r' E).2).keep (S.le_froze Hf) (gZ.refl S w') (fun _ _=>rfl),?_,fun k k' r1 r2 E Y aa g A X=>J.disj k k' r1 r2 (F k r1 E).2 (F k' r2 Y).2 aa g A X,J.tabs.keep (S.le_froze Hf) (gZ.refl S w')⟩
  ·rintro g (A|A)
   ·exact .inl (J.ro_fz g A)
   ·exact .inr A
  ·rintro g (A|⟨k,r',E,A⟩)
   ·exact J.fz_lt g A
   ·exact(J.rows k r' (T k r' E).2).block_lt A
  ·rintro k r' E g A (h1|⟨i,r2,hi,h2⟩)
   ·exact J.free k r' (F k r' E).2 g A h1
   ·exact J.disj k i r' r2 (F k r' E).2 (T i r2 hi).2 (fun e=>(F k r' E).1 (e▸(T i r2 hi).1)) g A h2
 have A:Grow S w' (S.froze Hf) w':=by
  refine⟨S.le_froze Hf,fun k E=>.inl E,rfl,rfl,rfl,Nat.le_refl _,fun _ _=>rfl,?_⟩;rintro g (A|⟨k,r',E,A⟩)
  ·grind
  ·exact .inr (J.free k r' (T k r' E).2 g A)
 have ab:FR (S.froze Hf) w' (upd ρ d y) U:=fun t' O=>by
  have h1:=hF t' O;cases d with
  | none=>exact hF.keep (S.le_froze Hf) (gZ.refl S w') t' O
  | some d=>
   by_cases e:t'=d
   ·subst e;simp only[upd,if_true]at h1 |-
    grind[Conv.rep]
   ·simp only[upd,if_neg e]at h1 |-;exact nS (S.le_froze Hf) (gZ.refl S w') _ _ h1
 exact⟨S.froze Hf,Z,ab,hG.trans A,hN.trans (fun k _ h0=>by grind) hG.le.N,hd,hn⟩
theorem VS{G:Option Bool}{l:Option Nat}{y:AV}{A K2:AV->Prop}(E:∀z,A z->K2 z)(h:rM G H l y A):rM G H l y K2:=by unfold rM at h |-;cases y<;>grind
theorem aeF{G:Option Bool}{x:AV}{A K2:AV->Prop}(E:∀z,A z->K2 z)(h:bU G x A):bU G x K2:=by
 unfold bU at h |-
 grind
def Iy{G:Option Bool}{t:TypeId}{x:Operand}{A K2:AV->Prop}(F:∀z,A z->K2 z)(h:jE P G ρ H (.load t x) A):jE P G ρ H (.load t x) K2:=by simp only[jE]at h |-;cases E:ldT P t<;>grind[aeF,VS]
def WN{t:TypeId}{x:Operand}(hS:St S w H)(Z:FR S w ρ a)(hG:Grow S0 w0 S w)(hN:gC S0.N H0 H)(T:a.defers=[])(hn:a.tmps.size=n)(ho:o.op=.load t x)(O:∀x∈o.op.operands,opB n x=true)
  (J:Region.wanted o (yielded ops a.tmps)=true↔gt none) (Y:∀A H' F w',K A H'->Rel n S0 w0 H0 A H' F w'->K' F w') (h:jE P none ρ H (.load t x) fun x=>Ol x ρ o.dst H K):Bx P ops o a w K' Q':=by
 refine vF (K:=fun A H'=>∃z,A=upd ρ o.dst z/\H'=H/\Ol z ρ o.dst H K) hS Z hG hN T hn O J ?_ (by rw[ho];exact Iy (fun z E=>⟨z,rfl,rfl,E⟩) h);rintro A H' F w' ⟨z,rfl,rfl,E⟩ X;unfold Ol at E;split at E
 ·obtain⟨l,ys,U,hk⟩:=E;exact Y _ _ _ _ (hk (fun k=>if k∈l then none else H' k) (fun k e=>if_pos e) (fun k e=>if_neg e)) (anH X (.agg _ _ (JS U)))
 grind
def IG{t:TypeId}{l c:Operand}(Z:St S w H)(hF:FR S w ρ a)(hG:Grow S0 w0 S w)(hN:gC S0.N H0 H)(hd:a.defers=[])(hn:a.tmps.size=n)(ho:o.op=.makeSlice t l c)(Y:∀x∈o.op.operands,opB a.tmps.size x=true)
  (hw:Region.wanted o (yielded ops a.tmps)=true) (hK:∀U H' a' w',K U H'->Rel n S0 w0 H0 U H' a' w'->K' a' w')
  (h:bU none (aev ρ l) fun l=>bU none (aev ρ c) fun c=>wX P o t l c ρ H K):Bx P ops o a w K' Q':=by
 rw[ho]at Y;simp only[Op.operands]at Y;obtain⟨l',h2,hl⟩:=aT (S:=S) (w:=w) h;obtain⟨c',h3,hc⟩:=aT (S:=S) (w:=w) h2;have el:=hl trivial _ (cV hF (Y l (by simp)));have ec:=hc trivial _ (cV hF (Y c (by simp)));unfold wX at h3;split at h3
 ·rename_i kl x kc y;simp only[rep]at el ec;split at h3
  ·rename_i e sz A he;split at h3
   ·rename_i z hz;obtain⟨⟨⟨p1,p2⟩,p3⟩,h4⟩:=h3;obtain⟨i,v,hi,ac,rfl,ai,aj,h1⟩:=pL hz;obtain⟨i',z',ab,E,O,af,X,ae,ak,ag⟩:=gM he;rw[hi]at E;injection E with E;subst E;have J:v.cells.size=sz:=by omega
    have ah:y<=(A:Int)*y:=by have:(1:Int)*y<=(A:Int)*y:=Int.mul_le_mul_of_nonneg_right (by omega) (by omega);omega
    have F:=run_make (P:=P) w t e i v ab hi ac kl kc x y p1 p2 (by grind) (by omega);have hm:(madeCells v.cells (y.toNat*sz)).toList=(List.replicate y.toNat v.cells.toList).flatten:=by grind[B7]
    have aa:(madeCells v.cells (y.toNat*sz)).toList.take (x.toNat*sz)=(List.replicate x.toNat v.cells.toList).flatten:=by
     rw[hm,<-J];have:y.toNat=x.toNat+(y.toNat-x.toNat):=by omega
     rw[this,<-List.replicate_append_replicate,List.flatten_append,List.take_append_of_le_length (by simp),List.take_of_length_le (by simp)]
    have T:∀m,bJ S w (List.replicate m (v.cells.toList.map tK)).flatten (List.replicate m v.cells.toList).flatten:=by intro m;induction m<;>grind[bJ,eV,oE]
    rw[O]at F;have q:=Z.newRow (e:=e) (sz:=sz) (cap:=y.toNat) (es:=List.replicate x.toNat (v.cells.toList.map tK)) (xs:=(List.replicate x.toNat v.cells.toList).flatten) (cur:=madeCells v.cells (y.toNat*sz)) X
     (fun cs al=>by grind) (T _) (fun u hu=>by simp_all;grind) (by grind) (by grind[maxLen]) (size_madeCells _ _) (by grind) (w':=w.alloc (.cells (madeCells v.cells (y.toNat*sz)) e)) rfl rfl rfl rfl
    refine gD hw (dV (v:=.slice (some ⟨w.heap.size,0,none⟩) x.toNat y.toNat) (w':=w.alloc (.cells (madeCells v.cells (y.toNat*sz)) e)) ?_ (hK _ _ _ _ (h4 S.N Z.fresh) (Rel.step Z hF hG hN hd hn q.1 q.2 (rB Z) ?_)))
    all_goals simp_all[execOp,rep,Sg.addRow]
   grind
  grind
 grind
def I8{A new:Value}(h:∀n,Instr.sameBits (n+1) A new=true)(w:World):(Instr.keyThatStays A new).run P w=.ok new w:=by simp_all[Instr.keyThatStays]
def xI{ms:List MapEntry}{i:Nat}{m:MapEntry}(A:ms[i]?=some m)(f:MapEntry->MapEntry):ms.modify i f=ms.set i (f m):=by
 apply List.ext_getElem?
 grind
def G5{t:TypeId}{m x:AV}{F:Nat->Row->TypeId×TypeId->Option Nat->Prop}(hS:St S w H){u v:Value}(O:rep S w m u)(hv:rep S w x v)(h:Ia P H t m x F):
  ∃j r A E g ms,F j r A E/\H j=some r/\u=.map (some g)/\S.loc j=.map (some g)/\w.heap[g]?=some (.map (List.toArray ms) ms.length)/\oC S w 0 r.es ms/\r.sz=2/\P.underlying t=some (.map A.1 A.2)/\(∀e (w':World),(Instr.checkKey e 10000 A.1 v).run P w'=.ok () w') /\
   ((E=none/\∀w':World,(Instr.findKey A.1 v ms).run P w'=.ok none w') \/
   ∃i m cs,E=some i/\ms[i]?=some m/\r.es[i]?=some cs/\(∀w':World,(Instr.findKey A.1 v ms).run P w'=.ok (some (i,m.val)) w')/\m.key=v/\(∀n,Instr.sameBits (n+1) m.key v=true)/\m.born=i/\bJ S w cs [m.key,m.val]):=by
 unfold Ia at h;split at h
 ·rename_i j;split at h
  ·rename_i r A U ht;split at h
   ·rename_i E Y;obtain⟨Z,h⟩:=h;simp only[rep]at O;obtain⟨_,rfl,g0,J⟩:=O;have T:=(hS.rows j r U).mp J;obtain⟨g,ms,h1,h2,h3,h4,h5,h6⟩:=RE ht Z Y T hv;obtain⟨_,_,_,_,_,X⟩:=T
    grind
   grind
  grind
 grind
def zR{j:Nat}{r:Row}{q:Option Row}(A:H j=some r):gC S.N H (aH H j q):=fun k _ h0=>by grind[aD]
def Iu{t:TypeId}{m x v:Operand}(hS:St S w H)(O:FR S w ρ a)(hG:Grow S0 w0 S w)(hN:gC S0.N H0 H)(hd:a.defers=[])(hn:a.tmps.size=n)(ho:o.op=.mapUpdate t m x v)(X:∀x∈o.op.operands,opB a.tmps.size x=true)
  (hw:Region.wanted o (yielded ops a.tmps)=true) (hK:∀Z H' a' w',K Z H'->Rel n S0 w0 H0 Z H' a' w'->K' a' w')
  (h:bU none (aev ρ m) fun m=>bU none (aev ρ x) fun x=>bU none (aev ρ v) fun v=>nX P o t m x v ρ H K):Bx P ops o a w K' Q':=by
 rw[ho]at X;simp only[Op.operands]at X;obtain⟨m',h,hm⟩:=aT (S:=S) (w:=w) h;obtain⟨x',h,hx⟩:=aT (S:=S) (w:=w) h;obtain⟨v',h,hv⟩:=aT (S:=S) (w:=w) h;have em:=hm trivial _ (cV O (X m (by simp)));have ex:=hx trivial _ (cV O (X x (by simp)));have ac:=hv trivial _ (cV O (X v (by simp)));unfold nX at h;obtain⟨j,r,kt,oi,g,ms,hk,hj,e0,hl,J,E,U,Y,hck,F⟩:=G5 hS em ex h;have T:g<w.heap.size:=(Array.getElem?_eq_some_iff.1 J).1;rcases F with⟨rfl,aa⟩|⟨i,me,cs,rfl,q1,q2,q3,q4,q5,q6,q7⟩
 ·have A:=Ft (m:=⟨a.eval x,a.eval v,ms.length⟩) (cs:=[x',v']) 0 _ _ E (by grind[Cl]) (by grind[bJ]);have q:=hS.setMap hj hl A U T;refine gD hw (Ae (w':={ w with heap:=w.heap.setIfInBounds g (.map (ms++[(⟨a.eval x,a.eval v,ms.length⟩:MapEntry)]).toArray (ms++[(⟨a.eval x,a.eval v,ms.length⟩:MapEntry)]).length) }) ?_ (hK _ _ _ _ hk (Rel.step hS O hG hN hd hn q.1 q.2 (zR hj) (by grind[rep]))));simp[execOp,ho,e0,Instr.mapUpdate,run_underlying Y,MapKept.run_getObj_map J,hck,aa,MapKept.run_setObj_map _ J]
 ·have A:=ED (m:=⟨a.eval x,a.eval v,i⟩) (cs:=[x',v']) 0 _ _ i E (by simp) (by grind[bJ]);have q:=hS.setMap hj hl A U T;refine gD hw (Ae (w':={ w with heap:=w.heap.setIfInBounds g (.map (ms.set i ⟨a.eval x,a.eval v,i⟩).toArray (ms.set i (⟨a.eval x,a.eval v,i⟩:MapEntry)).length) }) ?_ (hK _ _ _ _ hk (Rel.step hS O hG hN hd hn q.1 q.2 (zR hj) (by grind[rep]))));have ab:=I8 (P:=P) q5;simp[execOp,ho,e0,Instr.mapUpdate,run_underlying Y,MapKept.run_getObj_map J,hck,q3,q1,ab,MapKept.run_setObj_map _ J,xI q1,q6]
def Ph{t:TypeId}{m x v:Operand}(hS:St S w H)(O:FR S w ρ a)(hG:Grow S0 w0 S w)(hN:gC S0.N H0 H)(hd:a.defers=[])(hn:a.tmps.size=n)(ho:o.op=.insert t m x v)(X:∀x∈o.op.operands,opB a.tmps.size x=true)
  (hw:Region.wanted o (yielded ops a.tmps)=true) (hK:∀Z H' a' w',K Z H'->Rel n S0 w0 H0 Z H' a' w'->K' a' w')
  (h:bU none (aev ρ m) fun m=>bU none (aev ρ x) fun x=>bU none (aev ρ v) fun v=>nX P o t m x v ρ H K):Bx P ops o a w K' Q':=by
 rw[ho]at X;simp only[Op.operands]at X;obtain⟨m',h,hm⟩:=aT (S:=S) (w:=w) h;obtain⟨x',h,hx⟩:=aT (S:=S) (w:=w) h;obtain⟨v',h,hv⟩:=aT (S:=S) (w:=w) h;have em:=hm trivial _ (cV O (X m (by simp)));have ex:=hx trivial _ (cV O (X x (by simp)));have ac:=hv trivial _ (cV O (X v (by simp)));unfold nX at h;obtain⟨j,r,kt,oi,g,ms,hk,hj,e0,hl,J,E,U,Y,hck,F⟩:=G5 hS em ex h;have T:g<w.heap.size:=(Array.getElem?_eq_some_iff.1 J).1;rcases F with⟨rfl,aa⟩|⟨i,me,cs,rfl,q1,q2,q3,q4,q5,q6,q7⟩
 ·have A:=Ft (m:=⟨a.eval x,a.eval v,ms.length⟩) (cs:=[x',v']) 0 _ _ E (by grind[Cl]) (by grind[bJ]);have q:=hS.setMap hj hl A U T;refine gD hw (Ae (w':={ w with heap:=w.heap.setIfInBounds g (.map (ms++[(⟨a.eval x,a.eval v,ms.length⟩:MapEntry)]).toArray (ms++[(⟨a.eval x,a.eval v,ms.length⟩:MapEntry)]).length) }) ?_ (hK _ _ _ _ hk (Rel.step hS O hG hN hd hn q.1 q.2 (zR hj) (by grind[rep]))));simp[execOp,ho,e0,Instr.mapUpdate,run_underlying Y,MapKept.run_getObj_map J,hck,aa,MapKept.run_setObj_map _ J]
 ·have A:=ED (m:=⟨a.eval x,a.eval v,i⟩) (cs:=[x',v']) 0 _ _ i E (by simp) (by grind[bJ]);have q:=hS.setMap hj hl A U T;refine gD hw (Ae (w':={ w with heap:=w.heap.setIfInBounds g (.map (ms.set i ⟨a.eval x,a.eval v,i⟩).toArray (ms.set i (⟨a.eval x,a.eval v,i⟩:MapEntry)).length) }) ?_ (hK _ _ _ _ hk (Rel.step hS O hG hN hd hn q.1 q.2 (zR hj) (by grind[rep]))));have ab:=I8 (P:=P) q5;simp[execOp,ho,e0,Instr.mapUpdate,run_underlying Y,MapKept.run_getObj_map J,hck,q3,q1,ab,MapKept.run_setObj_map _ J,xI q1,q6]
def Jt{t:TypeId}{m x:Operand}(Z:St S w H)(hF:FR S w ρ a)(hG:Grow S0 w0 S w)(hN:gC S0.N H0 H)(hd:a.defers=[])(hn:a.tmps.size=n)(ho:o.op=.mapEntry t m x)(hb:∀x∈o.op.operands,opB a.tmps.size x=true)
  (hw:Region.wanted o (yielded ops a.tmps)=true) (hK:∀Y H' a' w',K Y H'->Rel n S0 w0 H0 Y H' a' w'->K' a' w')
  (h:bU none (aev ρ m) fun m=>bU none (aev ρ x) fun x=>CS P o t m x ρ H K):Bx P ops o a w K' Q':=by
 rw[ho]at hb;simp only[Op.operands]at hb;obtain⟨m',h,hm⟩:=aT (S:=S) (w:=w) h;obtain⟨x',h,hx⟩:=aT (S:=S) (w:=w) h;have em:=hm trivial _ (cV hF (hb m (by simp)));have ex:=hx trivial _ (cV hF (hb x (by simp)));unfold CS at h;obtain⟨j,r,kt,oi,g,ms,T,hj,e0,hl,U,O,ac,X,hck,F⟩:=G5 Z em ex h;have aa:g<w.heap.size:=(Array.getElem?_eq_some_iff.1 U).1;rcases F with⟨rfl,ae⟩|⟨i,me,cs,rfl,q1,q2,q3,q4,q5,q6,q7⟩
 ·simp only at T;split at T
  ·rename_i z hz;obtain⟨zv,ab,ag⟩:=MI hz;have A:=Ft (m:=⟨a.eval x,zv,ms.length⟩) (cs:=[x',z]) 0 _ _ O (by grind[Cl]) (by grind[bJ]);have q:=Z.setMap hj hl A ac aa;refine gD hw (dV (v:=.tuple #[zv,goInt ms.length]) (w':={ w with heap:=w.heap.setIfInBounds g (.map (ms++[(⟨a.eval x,zv,ms.length⟩:MapEntry)]).toArray (ms++[(⟨a.eval x,zv,ms.length⟩:MapEntry)]).length) }) ?_ (hK _ _ _ _ T (Rel.step Z hF hG hN hd hn q.1 q.2 (zR hj) ?_)))
   ·simp[execOp,ho,e0,Instr.mapEntry,run_underlying X,MapKept.run_getObj_map U,hck,ae,ab,MapKept.run_setObj_map _ U]
   grind[rep,bJ,goInt,Cl]
  grind
 ·simp only at T;have J:ms.set i ⟨a.eval x,me.val,i⟩=ms:=by
   have e0:(⟨a.eval x,me.val,i⟩:MapEntry)=me:=by rw[<-q4,<-q6]
   rw[e0];apply List.ext_getElem?
   grind
  have hm:({ w with heap:=w.heap.setIfInBounds g (.map ms.toArray ms.length) }:World)=w:=by
   have hh:w.heap.setIfInBounds g (.map ms.toArray ms.length)=w.heap:=by grind
   rw[hh]
  obtain⟨xk,xv,rfl,r1,r2⟩:=Ji q7;have e1:(r.es.getD i []).getD 1 .any=xv:=by grind
  rw[e1]at T;refine gD hw (dV (v:=.tuple #[me.val,goInt i]) (w':=w) ?_ (hK _ _ _ _ T (Rel.step Z hF hG hN hd hn Z (Grow.refl S w) (gC.refl _ _) ?_)))
  ·have af:=I8 (P:=P) q5;have E:=MapKept.run_setObj_map (P:=P) (.map (List.toArray ms) ms.length) U;rw[hm]at E;simp[execOp,ho,e0,Instr.mapEntry,run_underlying X,MapKept.run_getObj_map U,hck,q3,q1,af,xI q1,J,E,q6]
  grind[rep,bJ,goInt]
def NT:∀(i:Nat) (es:List (List AV)) (ms:List MapEntry) (j:Nat) {m:MapEntry},oC S w i es ms->ms[j]?=some m->ms.findIdx? (fun e=>(e.born:Int) == ((i+j:Nat):Int))=some j
 | _,[],ms,j,m,h,hj=>by grind[oC]
 | i,c::r,ms,0,m,h,hj=>by grind[oC]
 | i,c::r,ms,j+1,m,h,hj=>by
  simp only[oC]at h;obtain⟨E,t,rfl,h1,_,h3⟩:=h;have ih:=NT (i+1) r t j h3 (by simpa using hj);have A:((E.born:Int) == ((i+(j+1):Nat):Int))=false:=by simp[h1];omega
  rw[List.findIdx?_cons,A,show i+(j+1)=i+1+j by omega,ih];rfl
def Gw{t:TypeId}{m s v:Operand}(hS:St S w H)(X:FR S w ρ a)(hG:Grow S0 w0 S w)(hN:gC S0.N H0 H)(hd:a.defers=[])(hn:a.tmps.size=n)(ho:o.op=.entryStore t m s v)(O:∀x∈o.op.operands,opB a.tmps.size x=true)
  (hw:Region.wanted o (yielded ops a.tmps)=true) (hK:∀T H' a' w',K T H'->Rel n S0 w0 H0 T H' a' w'->K' a' w')
  (h:bU none (aev ρ m) fun m=>bU none (aev ρ s) fun s=>bU none (aev ρ v) fun v=>xG o m s v ρ H K):Bx P ops o a w K' Q':=by
 rw[ho]at O;simp only[Op.operands]at O;obtain⟨m',h,hm⟩:=aT (S:=S) (w:=w) h;obtain⟨s',h,hs⟩:=aT (S:=S) (w:=w) h;obtain⟨v',h,hv⟩:=aT (S:=S) (w:=w) h;have em:=hm trivial _ (cV X (O m (by simp)));have es:=hs trivial _ (cV X (O s (by simp)));have ac:=hv trivial _ (cV X (O v (by simp)));unfold xG at h;split at h
 ·rename_i j kd i _ _;split at h
  ·rename_i r hj;obtain⟨⟨i0,i1⟩,h⟩:=h;simp only[rep]at em es;obtain⟨_,Z,g0,U⟩:=em;rw[Z]at U;obtain⟨g,ms,hl,Y,A,ab⟩:=(hS.rows j r hj).mp U;have aa:g<w.heap.size:=(Array.getElem?_eq_some_iff.1 Y).1;obtain⟨F,g1,g2,g3⟩:=Un 0 _ _ i.toNat A (by omega);obtain⟨xk,xv,e1,r1,r2⟩:=Ji g3;have e2:(r.es.getD i.toNat []).getD 0 .any=xk:=by grind
   rw[e2]at h;have E:=ED (m:=⟨F.key,a.eval v,F.born⟩) (cs:=[xk,v']) 0 _ _ i.toNat A (by omega) (by grind[bJ]);have q:=hS.setMap hj hl E ab aa;have J:=NT 0 _ _ i.toNat A g1;rw[Nat.zero_add,Int.toNat_of_nonneg i0]at J;refine gD hw (Ae (w':={ w with heap:=w.heap.setIfInBounds g (.map (ms.set i.toNat ⟨F.key,a.eval v,F.born⟩).toArray (ms.set i.toNat (⟨F.key,a.eval v,F.born⟩:MapEntry)).length) }) ?_ (hK _ _ _ _ h (Rel.step hS X hG hN hd hn q.1 q.2 (zR hj) (by grind[rep]))));rw[hl]at Z;simp[execOp,ho,Z,es,asInt,asIntOf,Instr.entryStore,MapKept.run_getObj_map Y,J,MapKept.run_setObj_map _ Y,xI g1]
  grind
 grind
def LY{t:TypeId}(E:St S w H)(X:FR S w ρ a)(Y:Grow S0 w0 S w)(J:gC S0.N H0 H)(O:a.defers=[])(Z:a.tmps.size=n)(ho:o.op=.makeMap t none)
  (T:Region.wanted o (yielded ops a.tmps)=true) (U:∀A H' F w',K A H'->Rel n S0 w0 H0 A H' F w'->K' F w')
  (h:rV H ⟨0,2,[]⟩ fun k H'=>K (upd ρ o.dst (.om k)) H'):Bx P ops o a w K' Q':=by
 have q:=E.newMap (w':=w.alloc (.map #[] 0)) rfl rfl rfl rfl;refine gD T (dV (v:=.map (some w.heap.size)) (w':=w.alloc (.map #[] 0)) ?_ (U _ _ _ _ (h S.N E.fresh) (Rel.step E X Y J O Z q.1 q.2 (rB E) ?_)))
 all_goals simp_all[execOp,Instr.makeMap,rep,Sg.addRow]
def C1{ah:Bool}(ak:∀o∈ops,lQ n o=true)(E:St S w H)(T:FR S w ρ a)(Z:Grow S0 w0 S w)(Y:gC S0.N H0 H)(U:a.defers=[])(J:a.tmps.size=n)(hb:lQ n o=true)
   (X:∀al H' a' w',K al H'->Rel n S0 w0 H0 al H' a' w'->K' a' w') (h:aop P (bK P) (dS P) mt ah ops o ρ H K):Bx P ops o a w K' Q':=by
 obtain⟨F,_⟩:=AT hb;unfold aop at h;obtain⟨G,h2,A⟩:=AS ak T J h;clear h;have h:=h2;clear h2;split at h
 . -- assign
   rename_i x O;unfold Fp at h;split at h
   . rename_i aj;obtain⟨_,rfl,_,hx⟩:=aj;have hx:x=.const (.slice none 0 0):=by grind[vS]
     subst hx;split at h
     . rename_i e sz ag he;obtain⟨i,z,hu,hi,aq,_,aa,_⟩:=gM he;have hw:=dL A rfl;have q:=E.nilRow e aa;refine gD hw (dV (v:=.slice none 0 0) (w':=w) (by simp[execOp,O,Act.eval]) (X _ _ _ _ (h S.N E.fresh) (Rel.step E T Z Y U J q.1 q.2 (rB E) ?_)));simp[rep,Sg.addRow]
     grind
   . exact vF E T Z Y U J F A X (by rw[O];exact h)
 . -- alloc
   rename_i t O;split at h
   . rename_i z hz;obtain⟨rfl,_,h⟩:=h;have hw:=dL A rfl;split at h
     . split at h
       . rename_i nl ao;exact SY E T Z Y U J O hz hw X ao h
       grind
     obtain⟨v,i,hi,rfl,h1,ax,ac⟩:=afI hz (.tuple #[]) w;obtain⟨S',q1,q2,q3⟩:=GX (t:=t) (cs:=v.cells.toList.map tK) (l:=v.cells.toList) E (by grind) (oE _) h1;refine gD hw (dV (v:=.pointer (some ⟨w.heap.size,0,none⟩)) (w':=w.alloc (.cells v.cells t)) (by simp_all[execOp]) (X _ _ _ _ (h S.N E.fresh) (Rel.step E T Z Y U J (by omega) (by omega) (rB E) (by omega))))
   grind
 . -- box
   rename_i t x O;obtain⟨rfl,_,h⟩:=h;have hw:=dL A rfl;obtain⟨y,h2,hy⟩:=aT (S:=S) (w:=w) h;obtain⟨cs,h3,ai⟩:=AX (S:=S) (w:=w) h2;have hx:opB a.tmps.size x=true:=J▸F x (by grind[Op.operands]);obtain⟨l,e1,e2,e3⟩:=ai _ (hy trivial _ (cV T hx));have ac:(execOp a.eval o).run P w=.ok (.value (.pointer (some ⟨w.heap.size,0,none⟩))) (w.alloc (.cells l.toArray t)):=by simp_all[execOp,asT]
   unfold atU at h3;split at h3
   . obtain⟨aa,h4⟩:=h3;obtain⟨S',q1,q2,q3⟩:=GX (t:=t) E aa e2 e3;exact gD hw (dV ac (X _ _ _ _ (h4 S.N E.fresh) (Rel.step E T Z Y U J q1 q2 (rB E) q3)))
   . have q:=E.newRo (o:=.cells l.toArray t) (w':=w.alloc (.cells l.toArray t)) rfl rfl rfl rfl;refine gD hw (dV ac (X _ _ _ _ h3 (Rel.step E T Z Y U J q.1 q.2 (gC.refl _ _) ?_)));simp only[rep];refine⟨w.heap.size,0,by simp,.inr rfl,?_⟩;refine kI _ l 0 (eG q.2.le (q.2.kept E) _ _ e2) e3 fun j u hj=>?_
     simp_all
 . -- buildSlice
   rename_i t m ab O;obtain⟨_,h⟩:=h;obtain⟨ps,h2,ar⟩:=qR T ab.toList (fun p hp=>J▸F p.2 (by grind[Op.operands])) h;unfold qG at h2;split at h2
   . rename_i e sz ag he;obtain⟨⟨p1,p2,p3⟩,h3⟩:=h2;have go:∀(_:gt G),∃xs:List Value,(execOp a.eval o).run P w=.ok (.value (.slice (some ⟨w.heap.size,0,none⟩) m m)) (w.alloc (.cells xs.toArray e))/\bJ S w (ps.map (·.2)).flatten xs/\(∀u∈xs,u.oneCell'=true)/\ps.length=m/\xs.length=m*sz:=fun hg=>by
       obtain⟨f1,f2⟩:=ar hg;have hl:(ab.map fun(p:Nat×Operand)=>(p.1,a.eval p.2)).toList=ab.toList.map fun p=>(p.1,a.eval p.2):=by simp
       rw[<-hl]at f1 f2;obtain⟨xs,g1,g2,g3,g4,g5⟩:=Jl (w:=w) he p1 p2 f1 f2 p3
       grind[execOp,alA]
     obtain⟨aw,z,hu,hi,aq,_,aa,_⟩:=gM he;split at h3
     . rename_i aj;obtain⟨_,rfl⟩:=aj;have hw:=dL A rfl;obtain⟨xs,g1,g2,g3,g4,g5⟩:=go trivial;have af:(ps.map (·.2)).length=m:=by grind
       have q:=E.newRow (e:=e) (sz:=sz) (cap:=m) (es:=ps.map (·.2)) (xs:=xs) (cur:=xs.toArray) aa (iT.1 p2) g2 g3 (by omega) (by simp only[maxLen];have:m<=m*sz:=Nat.le_mul_of_pos_right _ aa;omega) (by omega)
         (by grind) (w':=w.alloc (.cells xs.toArray e)) rfl rfl rfl rfl
       refine gD hw (dV g1 (X _ _ _ _ (h3 S.N E.fresh) (Rel.step E T Z Y U J q.1 q.2 (rB E) ?_)));simp_all[rep,Sg.addRow]
     . refine And.symm ⟨fun hw=>?_,fun hw=>?_⟩
       . have ae:¬gt G:=fun h=>by grind
         exact X _ _ _ _ h3 (Rel.step E T Z Y U J E (Grow.refl S w) (gC.refl _ _) (fD ae))
       have ae:=A.1 hw;obtain⟨xs,g1,g2,g3,g4,g5⟩:=go ae;have af:(ps.map (·.2)).length=m:=by grind
       have q:=E.newRo (o:=.cells xs.toArray e) (w':=w.alloc (.cells xs.toArray e)) rfl rfl rfl rfl;refine dV g1 (X _ _ _ _ h3 (Rel.step E T Z Y U J q.1 q.2 (gC.refl _ _) (gB ae ?_)));simp only[rep];refine⟨_,_,_,rfl,af,Nat.le_refl _,by simp only[maxLen];have:m<=m*sz:=Nat.le_mul_of_pos_right _ aa;omega,.inr ⟨w.heap.size,0,sz,rfl,.inr rfl,aa,?_⟩⟩;refine tI _ _ (iT.1 p2) (kI _ xs 0 (eG q.2.le (q.2.kept E) _ _ g2) g3 fun j u hj=>?_);simp_all
   grind
 . -- store
   rename_i t x y O;obtain⟨rfl,_,h⟩:=h;have hw:=dL A rfl;split at h
   . rename_i av;have hy:y=.const (.slice none 0 0):=by grind[vS]
     subst hy;exact Iz (K2:=fun _=>True) E T Z Y U J O (fun x hx=>J▸F x hx) hw X h
   obtain⟨x',h2,ap⟩:=aT (S:=S) (w:=w) h;obtain⟨y',h3,am⟩:=aT (S:=S) (w:=w) h2;obtain⟨cs,h4,ai⟩:=AX (S:=S) (w:=w) h3;have an:opB a.tmps.size x=true:=J▸F x (by grind[Op.operands]);have au:opB a.tmps.size y=true:=J▸F y (by grind[Op.operands]);have ex:=ap trivial _ (cV T an);obtain⟨l,e1,e2,e3⟩:=ai _ (am trivial _ (cV T au));exact Fj E T Z Y U J O hw X ex e1 e2 e3 h4
 . rename_i c O;exact T6 E T Z Y U J O F A X h
 all_goals first
   | exact h.elim
   | (rename_i O; split at h
      . obtain⟨rfl,_,h⟩:=h;exact Qr E T Z Y U J O (fun x hx=>J▸F x hx) (dL A rfl) X h
      . exact vF E T Z Y U J F A X (by grind))
   | (rename_i O; split at h
      . obtain⟨rfl,_,h⟩:=h;exact WN E T Z Y U J O F A X h
      . exact vF E T Z Y U J F A X (by grind))
   | (rename_i O; split at h
      . obtain⟨rfl,h⟩:=h;split at h
        . exact OE E T Z Y U J O (fun x hx=>J▸F x hx) (dL A rfl) X h
        . exact Ql E T Z Y U J O (fun x hx=>J▸F x hx) (dL A rfl) X h
      . exact vF E T Z Y U J F A X (by grind))
   | (rename_i O;obtain⟨rfl,_,h⟩:=h;exact IG E T Z Y U J O (fun x hx=>J▸F x hx) (dL A rfl) X h)
   | (rename_i O;exact vF E T Z Y U J F A X (by rw[O];exact h))
   | (rename_i O;obtain⟨rfl,_,h⟩:=h;exact LY E T Z Y U J O (dL A rfl) X h)
   | (rename_i O;obtain⟨rfl,_,h⟩:=h;exact Iu E T Z Y U J O (fun x hx=>J▸F x hx) (dL A rfl) X h)
   | (rename_i O;obtain⟨rfl,_,h⟩:=h;exact Ph E T Z Y U J O (fun x hx=>J▸F x hx) (dL A rfl) X h)
   | (rename_i O;obtain⟨rfl,_,h⟩:=h;exact Jt E T Z Y U J O (fun x hx=>J▸F x hx) (dL A rfl) X h)
   | (rename_i O;obtain⟨rfl,_,h⟩:=h;exact Gw E T Z Y U J O (fun x hx=>J▸F x hx) (dL A rfl) X h)
end
end Go.Aw
end
section
namespace Go.Aw
open Go.RowKit
section
variable{P:Program}{ops:Array Oper}{md:Region.Mode}{C:World->Prop}{R:World->World->Prop}{Q':Exit->Act->World->Prop}
def goes(P:Program)(K:Value->World->Prop):Result Next->Prop
 | .ok (.value v) w'=>K v w'
 | .ok .skip w'=>K undef w'
 | .ok (.enter f args) w'=>Calls P f args w' fun e w''=>∃v,e=.returned v/\K v w''
 | .ok (.row row args) w'=>Rows P row args w' K
 | _=>False
def gAt(P:Program)(o:Oper)(a:Act)(w:World)(K:Value->World->Prop):Prop:=goes P K ((execOp a.eval o).run P w)
def gOp(P:Program)(ops:Array Oper)(i:Nat)(K:Act->World->Prop)(a:Act)(w:World):Prop:=
 match ops[i]? with
 | none=>False
 | some o=>if Region.wanted o (yielded ops a.tmps)=true then gAt P o a w (fun v w'=>K (a.put o.dst v) w')else K (a.put o.dst undef) w
def zH{K K':Value->World->Prop}(h:∀v w,K v w->K' v w){r:Result Next}(A:goes P K r):goes P K' r:=by
 cases r with
 | ok n w'=>
  cases n <;> simp only[goes]at A |-
  case value u=>grind
  case skip=>grind
  case enter f args=>exact A.mono fun e F ⟨v,E,J⟩=>⟨v,E,h _ _ J⟩
  case row row args=>exact A.mono h
 | halt x w'=>grind[goes]
def KE{i:Nat}{a:Act}{w:World}{K K':Act->World->Prop}(h:∀a w,K a w->K' a w)(A:gOp P ops i K a w):gOp P ops i K' a w:=by
 unfold gOp at *;split
 ·grind
 ·rename_i o F;simp only[F]at A;split
  ·rename_i E;rw[if_pos E]at A;exact zH (fun v w' J=>h _ _ J) A
  grind
def acZ{o:Oper}{a:Act}{w:World}{K:Act->World->Prop}(h:gAt P o a w (fun v w'=>K (a.put o.dst v) w')):o.wp P a w K Q':=by
 unfold Oper.wp;unfold gAt at h;generalize (execOp a.eval o).run P w=r at *;cases r with
 | ok n w'=>
  cases n <;> simp only[goes]at h <;> simp only[Oper.upon]
  case value u=>exact h
  case skip=>exact h
  case enter f args=>exact h.mono fun e A ⟨v,E,F⟩=>by grind
  omega
 | halt x w'=>grind[goes]
def UO{i:Nat}{a:Act}{w:World}{K:Act->World->Prop}(h:gOp P ops i K a w):wpOp P ops Q' i K a w:=by
 unfold gOp at h;unfold wpOp;split
 ·grind
 ·rename_i o A;simp only[A]at h;split
  all_goals simp_all[acZ]
def OK{o:Oper}{a:Act}{w:World}{v:Value}{D:World->Prop}(A:D w)(h:o.quietAt P a D w v):gAt P o a w (fun u w'=>u=v/\D w'):=by
 unfold Oper.quietAt at h;unfold gAt;generalize (execOp a.eval o).run P w=r at *;cases r with
 | ok n w'=>
  cases n <;> simp only[Oper.quietUpon]at h <;> simp only[goes]
  all_goals grind
 | halt x w'=>grind[Oper.quietUpon]
def mD(P:Program)(md:Region.Mode)(ops:Array Oper)(C:World->Prop)(R:World->World->Prop)(Q':Exit->Act->World->Prop):Nat->Array Bool->Act->World->Prop
 | 0,listed,a,w=>Region.ready md ops listed=[]/\Q' .normal a w
 | f+1,listed,a,w=>Region.ready md ops listed≠[] /\
   ∀i∈Region.ready md ops listed,gOp P ops i (fun a' w'=>C w'/\∀w2,R w' w2->mD P md ops C R Q' f (listed.setIfInBounds i true) a' w2) a w
def AP(A:∀w,R w w):∀(f:Nat) (listed:Array Bool) (a:Act) (w:World),mD P md ops C R Q' f listed a w->wpAny P md ops Q' f listed a w
 | 0,_,_,_,h=>h
 | f+1,_,_,_,h=>⟨fun h0=>absurd h0 h.1,fun i E=>UO (KE (fun J w' F=>AP A f _ _ _ (F.2 w' (A w'))) (h.2 i E))⟩
def YQ(P:Program)(ops:Array Oper)(C:World->Prop)(R:World->World->Prop)(o:Oper)(v:Value)(a:Act):Prop:=
 (Region.wanted o (yielded ops a.tmps)=true/\∀w,C w->o.quietAt P a (R w) w v)\/(Region.wanted o (yielded ops a.tmps)=false/\v=undef)
def YQ.of_same{o:Oper}{v:Value}{a A:Act}(J:YQ P ops C R o v a)(E:execOp A.eval o=execOp a.eval o)
 (F:Region.wanted o (yielded ops A.tmps)=Region.wanted o (yielded ops a.tmps)):YQ P ops C R o v A:=by grind[YQ,Oper.quietAt]
def avT{j:Nat}{A E:Oper}{v:Value}(X:ops[j]?=some E)(J:A.apart ops E=true)
  (O:∀cs b,A.op≠.select cs b) (F:∀cs b,E.op≠.select cs b) {K:Act->World->Prop} {a:Act} {w:World}
  (Y:YQ P ops C R A v a) (h:gOp P ops j K (a.put A.dst v) w):
  gOp P ops j (fun U w'=>YQ P ops C R A v U/\K (U.put A.dst v) w') a w:=by
 obtain⟨h1,Z,h3⟩:=Oper.apart_spec J;have keep:∀u,YQ P ops C R A v (a.put E.dst u):=fun u=>Y.of_same (execOp_put A O a E.dst u h3) (wanted_put A a E.dst u h3)
 unfold gOp at *;simp only[X]at *;rw[wanted_put E a A.dst v h1]at h;split
 ·rename_i T;rw[if_pos T]at h;unfold gAt at *;rw[execOp_put E F a A.dst v h1]at h
  grind[Act.put_comm]
 ·rename_i T;rw[if_neg T]at h
  grind[Act.put_comm]
def Mn{i:Nat}{A:Oper}{v:Value}{a:Act}{w:World}(T:ops[i]?=some A)(O:C w)(F:∀w,R w w)(U:YQ P ops C R A v a){K:Act->World->Prop}(h:∀w',R w w'->K (a.put A.dst v) w'):
  gOp P ops i K a w:=by
 unfold gOp;simp only[T];rcases U with⟨E,J⟩|⟨E,rfl⟩
 ·rw[if_pos E];exact zH (fun u w' ⟨e,X⟩=>by grind) (OK (F w) (J w O))
 grind
def nZ{i:Nat}{oi:Oper}{v:Value}(hi:ops[i]?=some oi)(T:∀(j:Nat) (o:Oper) cs b,ops[j]?=some o->o.op≠.select cs b)
   (hR:∀w,R w w) (hT:∀w w' ac,R w w'->R w' ac->R w ac) (aa:∀w w',C w->R w w'->C w'):
   ∀(f:Nat) (A:Array Bool) (a:Act) (w:World),C w ->
     (∀j Z,ops[j]?=some Z->j≠i->A.getD j true=false->(∀e∈Z.after,Region.binds md e=true->e.on≠i)->oi.apart ops Z=true) ->
     i∈Region.ready md ops A->YQ P ops C R oi v a ->
     (∀O,R w O->mD P md ops C R Q' f (A.setIfInBounds i true) (a.put oi.dst v) O)->mD P md ops C R Q' (f+1) A a w:=by
 intro f;induction f with
 | zero=>
   intro A a w hC _ hr hy H;refine⟨fun h=>(by grind),fun j hj=>?_⟩;by_cases E:j=i
   . subst E;exact Mn hi hC hR hy fun w' F=>⟨aa _ _ hC F,fun O U=>H O (hT _ _ _ F U)⟩
   . have:=ready_mono hj E;rw[(H w (hR w)).1]at this
     grind
 | succ f ih=>
   intro A a w hC X hr hy H;refine⟨fun h=>(by grind),fun j hj=>?_⟩;by_cases E:j=i
   . subst E;exact Mn hi hC hR hy fun w' F=>⟨aa _ _ hC F,fun O U=>H O (hT _ _ _ F U)⟩
   . have h1:=(H w (hR w)).2 j (ready_mono hj E);obtain⟨ae,Z,Y,ah⟩:=mem_ready.1 hj;have af:∀e∈Z.after,Region.binds md e=true->e.on≠i:=fun e he hb ai=>by grind[mem_ready]
     have U:=avT Y (X j Z Y E ae af) (fun cs b=>T i oi cs b hi) (fun cs b=>T j Z cs b Y) hy h1;have J : ∀ k ok, ops[k]? = some ok -> k ≠ i -> (A.setIfInBounds j true).getD k true = false ->
         (∀e∈ok.after,Region.binds md e=true->e.on≠i)->oi.apart ops ok=true:=fun k ok hk aj ak al=>by simp_all;grind
     refine KE (fun a' w' ⟨ag,ab,hk⟩=>⟨ab,fun O U=>ih (A.setIfInBounds j true) a' O (aa _ _ ab U) J (ready_mono hr (Ne.symm E)) ag fun w3 h3=>?_⟩) U
     grind[Array.setIfInBounds_comm]
end
def Rw(w w':World):Prop:=w'.os=w.os/\w'.tape=w.tape/\w'.output=w.output/\w.heap.size<=w'.heap.size/\∀k,k<w.heap.size->w'.heap[k]?=w.heap[k]?
theorem Rw.refl(w:World):Rw w w:=⟨rfl,rfl,rfl,Nat.le_refl _,fun _ _=>rfl⟩
def Rw.trans{w w' A:World}(h:Rw w w')(E:Rw w' A):Rw w A:=
 ⟨E.1.trans h.1,E.2.1.trans h.2.1,E.2.2.1.trans h.2.2.1,Nat.le_trans h.2.2.2.1 E.2.2.2.1,fun k F=>(E.2.2.2.2 k (Nat.lt_of_lt_of_le F h.2.2.2.1)).trans (h.2.2.2.2 k F)⟩
def Cb(S:Sg)(wb w:World):Prop:=w.os=wb.os/\w.tape=wb.tape/\w.output=wb.output/\wb.heap.size<=w.heap.size/\∀k,S.fz k->w.heap[k]?=wb.heap[k]?
def Cb.rw{S:Sg}{wb w w':World}{H:aG}(F:St S wb H)(h:Cb S wb w)(A:Rw w w'):Cb S wb w':=
 ⟨A.1.trans h.1,A.2.1.trans h.2.1,A.2.2.1.trans h.2.2.1,Nat.le_trans h.2.2.2.1 A.2.2.2.1,fun k E=>(A.2.2.2.2 k (Nat.lt_of_lt_of_le (F.fz_lt k E) h.2.2.2.1)).trans (h.2.2.2.2 k E)⟩
def Rw.cb{S:Sg}{wb w:World}{H:aG}(A:St S wb H)(h:Rw wb w):Cb S wb w:=⟨h.1,h.2.1,h.2.2.1,h.2.2.2.1,fun k E=>h.2.2.2.2 k (A.fz_lt k E)⟩
def Cb.st{S:Sg}{wb w:World}{H:aG}(E:St S wb H)(h:Cb S wb w):St S w bY:=
 ⟨E.ro_fz,fun k A=>Nat.lt_of_lt_of_le (E.fz_lt k A) h.2.2.2.1,fun k r A=>by grind[bY],fun k r A=>by grind[bY],fun k k' r r' A=>by grind[bY],E.tabs.keep S.le_refl (fun k A=>h.2.2.2.2 k (E.ro_fz k A))⟩
def Cb.kept{S:Sg}{wb w:World}{H:aG}(A:St S wb H)(h:Cb S wb w):gZ S wb w:=fun k E=>h.2.2.2.2 k (A.ro_fz k E)
def Cb.agree{S:Sg}{wb w:World}{H:aG}(A:St S wb H)(h:Cb S wb w):Agree S bY wb w:=⟨h.kept A,fun k r E=>by grind[bY]⟩
def Grow.cb{S S':Sg}{wb w:World}(h:Grow S wb S' w):Cb S wb w:=⟨h.os,h.tape,h.output,h.size,h.same⟩
section
variable{P:Program}{n:Nat}{S0:Sg}{w0:World}{H0:aG}{mt:Nat->Bool}{ops:Array Oper}{K:Env->aG->Prop}{ρ:Env}{H:aG}{a:Act}{w:World}
def Rel.rw{w':World}(h:Rel n S0 w0 H0 ρ H a w)(A:Rw w w'):Rel n S0 w0 H0 ρ H a w':=by obtain⟨S,E,T,U,J,O,X⟩:=h;have F:=E.grow A.1 A.2.1 A.2.2.1 A.2.2.2.1 A.2.2.2.2;exact⟨S,E.after A.2.2.2.1 A.2.2.2.2,T.keep S.le_refl (F.kept E),U.trans F,J,O,X⟩
def FZ{o:Oper}{K':Act->World->Prop}(F:∀a w,K' a w->a.defers=[])(h:o.wp P a w K' fun _ _ _=>False):gAt P o a w fun v w'=>K' (a.put o.dst v) w':=by
 unfold Oper.wp at h;unfold gAt;generalize (execOp a.eval o).run P w=r at *;cases r with
 | ok m w'=>
  cases m <;> simp only[Oper.upon]at h <;> simp only[goes]
  case value u=>exact h
  case skip=>exact h
  case enter f args=>
   refine h.mono fun e E A=>?_
   cases e
   case returned v=>grind
   case panicked c=>grind
   case outgrown=>obtain⟨_,_,h⟩:=A;grind
  all_goals grind[sL]
 | halt x w'=>cases x <;> simp only[Oper.upon]at h
variable{S:Sg}
def AR{o:Oper}{w1:World}{CC:World->Prop}(E:∀w,CC w->St S w H/\Agree S H w1 w)(hS:St S w1 H)(U:FR S w1 ρ a)(hn:a.tmps.size=n)(J:∀x∈o.op.operands,opB n x=true){G:Option Bool}
  (A:Region.wanted o (yielded ops a.tmps)=true↔gt G) (h:jE P G ρ H o.op fun x=>K (upd ρ o.dst (wr G x)) H):
  ∃z,K (upd ρ o.dst z) H/\(Region.wanted o (yielded ops a.tmps)=true->∃v,rep S w1 z v/\∀w,CC w->o.quietAt P a (Rw w) w v)/\(Region.wanted o (yielded ops a.tmps)=false->rep S w1 z undef):=by
 obtain⟨z,Y,O⟩:=H5 (hn▸J) U hS.rows h;refine⟨_,Y,fun F=>?_,fun F=>?_⟩
 ·obtain⟨v,T,X⟩:=O (A.1 F);refine⟨v,gB (A.1 F) T,fun w Z=>?_⟩;unfold Oper.quietAt;rw[X w (E w Z).2 o rfl];exact⟨rfl,rfl⟩
 grind[fD]
def TF{o:Oper}{c:Call}{w1:World}{CC:World->Prop}(ac:∀w,CC w->St S w H/\Agree S H w1 w)(hS:St S w1 H)(hF:FR S w1 ρ a)(hn:a.tmps.size=n)(ho:o.op=.call c)(hb:∀x∈o.op.operands,opB n x=true){G:Option Bool}
  (aa:Region.wanted o (yielded ops a.tmps)=true↔gt G) {nl:Bool} (h:EA P (bK P) (dS P) nl true G o c ρ H K):
  ∃z,K (upd ρ o.dst z) H/\(Region.wanted o (yielded ops a.tmps)=true->∃v,rep S w1 z v/\∀w,CC w->o.quietAt P a (Rw w) w v)/\(Region.wanted o (yielded ops a.tmps)=false->rep S w1 z undef):=by
 rw[ho]at hb;simp only[Op.operands,Call.operands]at hb;unfold EA at h;split at h
 ·rename_i b hc;obtain⟨ys,Y,X⟩:=qM hF c.args.toList (fun x hx=>hn▸hb x (by grind)) h;clear h;have h:=Y;clear Y;split at h
  ·rename_i x t F;obtain⟨z,hz,hl⟩:=JJ (G:=G) (ty:=o.type) hS.rows h;refine⟨_,hz,fun U=>?_,fun U=>fD fun h=>by grind⟩;have E:=aa.1 U;have Z:=X E;simp only[bJ]at Z;obtain⟨u,t',e1,e2,rfl⟩:=Z;obtain⟨v,hv,T⟩:=hl E u e2;have ea:c.args.map a.eval=#[u]:=Array.toList_inj.1 (by simp_all);have et:c.argTypes=#[t]:=Array.toList_inj.1 (by omega);refine⟨v,gB E hv,fun w O=>?_⟩;unfold Oper.quietAt;have:(execOp a.eval o).run P w=.ok (.value v) w:=by simp[execOp,ho,resolve,hc,invoke,builtin,ea,et,T w (ac w O).2]
   rw[this];exact⟨rfl,rfl⟩
  ·grind
  ·grind
  ·grind
  ·rename_i x y t t' F;obtain⟨z,hz,hl⟩:=Jj (P:=P) (S:=S) (w:=w1) (H:=H) (G:=G) (tys:=c.argTypes) (ty:=o.type) h;refine⟨_,hz,fun U=>?_,fun U=>fD fun h=>by grind⟩
   ·have E:=aa.1 U;have Z:=X E;simp only[bJ]at Z;obtain⟨us,t1,e1,e2,ux,t2,rfl,e3,rfl⟩:=Z;obtain⟨v,hv,T⟩:=hl E us ux e2 e3;have ea:c.args.map a.eval=#[us,ux]:=Array.toList_inj.1 (by simp_all);refine⟨v,gB E hv,fun w O=>?_⟩;unfold Oper.quietAt;have:(execOp a.eval o).run P w=.ok (.value v) w:=by simp_all[execOp,resolve,invoke,builtin]
    rw[this];exact⟨rfl,rfl⟩
  ·rename_i x y t t' F;obtain⟨z,hz,hl⟩:=Li (P:=P) (S:=S) (w:=w1) (H:=H) (G:=G) (tys:=c.argTypes) (ty:=o.type) h;refine⟨_,hz,fun U=>?_,fun U=>fD fun h=>by grind⟩
   ·have E:=aa.1 U;have Z:=X E;simp only[bJ]at Z;obtain⟨us,t1,e1,e2,ux,t2,rfl,e3,rfl⟩:=Z;obtain⟨v,hv,T⟩:=hl E us ux e2 e3;have ea:c.args.map a.eval=#[us,ux]:=Array.toList_inj.1 (by simp_all);refine⟨v,gB E hv,fun w O=>?_⟩;unfold Oper.quietAt;have:(execOp a.eval o).run P w=.ok (.value v) w:=by simp_all[execOp,resolve,invoke,builtin]
    rw[this];exact⟨rfl,rfl⟩
  grind
 ·rename_i f hc;obtain⟨yf,Y,hf⟩:=aT (S:=S) (w:=w1) h;clear h;have h:=Y;clear Y;split at h
  ·rename_i g aj ai ag;by_cases al:nl=true
   ·grind
   rw[if_neg al]at h;obtain⟨ys,Y,X⟩:=qM hF c.args.toList (fun x hx=>hn▸hb x (by grind)) h;clear h;obtain⟨am,h⟩:=Y;have ah:=fun hg=>D9 ag (hf hg _ (cV hF (hn▸hb f (by grind))))
   have F:gt G->∃first A:Array Value,a.eval f=.func (.func g) first A/\bJ S w1 (aj++ys++ai) (first++c.args.map a.eval++A).toList:=fun hg=>by obtain⟨first,A,h1,Y,h3⟩:=ah hg;refine⟨first,A,h1,?_⟩;simp_all[eV]
   split at h
   ·grind
   ·obtain⟨r,hq,hk⟩:=h;by_cases E:gt G
    ·rcases hq E with hq|⟨x,rfl,an⟩
     ·obtain⟨v,ae⟩:=hq.val;rw[Tg (by grind)]at hk;refine⟨_,hk,fun U=>?_,fun U=>fD fun h=>by grind⟩;obtain⟨first,A,ak,af⟩:=F E;have ab:∀w,(execOp a.eval o).run P w=.ok (.enter g (first++c.args.map a.eval++A)) w:=fun w=>by
       simp only[execOp,ho];rw[rO hc ak]
       grind[invoke,vD]
      have hv:=(hq.calls ae hS af).1;refine⟨v,gB E (hv S w1),fun w O=>?_⟩;have J:=(hq.calls ae (ac w O).1 (eG S.le_refl (ac w O).2.kept _ _ af)).2;unfold Oper.quietAt;rw[ab];refine⟨rfl,?_⟩;rw[Array.toArray_toList]at J;exact J
     ·exact hk.elim
    ·obtain⟨z,hk⟩:=S6 hk
     grind[fD]
  grind
 grind
def Df{o:Oper}{w1:World}{CC:World->Prop}(E:∀w,CC w->St S w H/\Agree S H w1 w)(U:∀o∈ops,lQ n o=true)(X:St S w1 H)(T:FR S w1 ρ a)(O:a.tmps.size=n)(Z:lQ n o=true)(h:aop P (bK P) (dS P) mt true ops o ρ H K):
   ∃z,K (upd ρ o.dst z) H/\(Region.wanted o (yielded ops a.tmps)=true->∃v,rep S w1 z v/\∀w,CC w->o.quietAt P a (Rw w) w v)/\(Region.wanted o (yielded ops a.tmps)=false->rep S w1 z undef):=by
 obtain⟨A,_⟩:=AT Z;unfold aop at h;obtain⟨G,Y,F⟩:=AS U T O h;clear h;have h:=Y;clear Y;split at h
 . rename_i x J;unfold Fp at h;split at h
   . grind
   . exact AR E X T O A F (by rw[J];exact h)
 . grind
 . grind
 . grind
 . grind
 . rename_i c J;exact TF E X T O J A F h
 all_goals first
   | exact h.elim
   | (simp at h;done)
   | (rename_i J; split at h
      . simp at h;done
      . exact AR E X T O A F (by rw[J];exact h))
   | (rename_i J; split at h
      . obtain⟨rfl,h⟩:=h;rw[if_pos rfl]at h;obtain⟨z,hz,v,hv,hq⟩:=Hl (S:=S) (w1:=w1) T (fun x hx=>O▸A x hx) J h;exact⟨z,hz,fun _=>⟨v,hv,fun w _=>by unfold Oper.quietAt;rw[hq w];exact⟨rfl,rfl⟩⟩,fun hw=>by grind[dL]⟩
      . exact AR E X T O A F (by grind))
   | (rename_i J;exact AR E X T O A F (by rw[J];exact h))
def Sm{o:Oper}{w1:World}{CC:World->Prop}(E:∀w,CC w->St S w bY/\Agree S bY w1 w)(hS:St S w1 H)(X:FR S w1 ρ a)(hn:a.tmps.size=n){t:TypeId}{x:Operand}{lo hi m:Option Operand}(O:o.op=.slice t x lo hi m)(J:∀x∈o.op.operands,opB n x=true){G:Option Bool}
  (A:Region.wanted o (yielded ops a.tmps)=true↔gt G) (h:jE P G ρ H o.op fun x=>K (upd ρ o.dst (wr G x)) H):
  ∃z,K (upd ρ o.dst z) H/\(Region.wanted o (yielded ops a.tmps)=true->∃v,rep S w1 z v/\∀w,CC w->o.quietAt P a (Rw w) w v)/\(Region.wanted o (yielded ops a.tmps)=false->rep S w1 z undef):=by
 rw[O]at J h;obtain⟨z,Z,T⟩:=EN (H':=bY) (hn▸J) X hS.rows h;refine⟨_,Z,fun F=>?_,fun F=>?_⟩
 ·obtain⟨v,U,Y⟩:=T (A.1 F);refine⟨v,gB (A.1 F) U,fun w hc=>?_⟩;unfold Oper.quietAt;rw[Y w (E w hc).2 o O];exact⟨rfl,rfl⟩
 grind[fD]
def WZ{o:Oper}{w1:World}{CC:World->Prop}(F:∀w,CC w->St S w bY/\Agree S bY w1 w)(E:∀o∈ops,lQ n o=true)(Z:St S w1 H)(O:FR S w1 ρ a)(J:a.tmps.size=n)(X:lQ n o=true){K:Env->Prop}(h:aop P (bK P) (dS P) mt true ops o ρ (qH o H) fun A _=>K A):
  ∃z,K (upd ρ o.dst z)/\(Region.wanted o (yielded ops a.tmps)=true->∃v,rep S w1 z v/\∀w,CC w->o.quietAt P a (Rw w) w v)/\(Region.wanted o (yielded ops a.tmps)=false->rep S w1 z undef):=by
 by_cases hs:∃t x lo hi m,o.op=.slice t x lo hi m
 ·obtain⟨t,x,lo,hi,m,Y⟩:=hs;have e:qH o H=H:=by grind[qH]
  rw[e]at h;obtain⟨U,_⟩:=AT X;unfold aop at h;obtain⟨G,h2,T⟩:=AS E O J h;clear h;rw[Y]at h2;exact Sm (K:=fun A _=>K A) F Z O J Y U T (by grind)
 ·have e : qH o H = bY := by
   unfold qH;split
   ·grind
   ·rfl
  rw[e]at h;exact Df (K:=fun A _=>K A) F E (Z.drop fun k r hk=>by grind[bY]) O J X h
def Mb{Q':Exit->Act->World->Prop}{wb:World}{Sb:Sg}{Hb:aG}(A:∀o∈ops,lQ n o=true)(Z:∀ρ H a w,K ρ H->Rel n Sb wb Hb ρ H a w->Q' .normal a w):
  ∀(l:List Oper) (k:Nat) (listed:Array Bool) (ρ:Env) (H:aG) (a:Act) (w:World),(∀j,l[j]?=ops[k+j]?)->(∀o∈l,lQ n o=true)->Region.seqB .any ops l.length k listed=true ->
   yY P (bK P) (dS P) mt false ops K l ρ H->Rel n Sb wb Hb ρ H a w->mD P .any ops (Cb Sb wb) Rw Q' l.length listed a w
 | [],_,_,ρ,H,a,w,_,_,hB,h,hR=>⟨by grind[Region.seqB],Z ρ H a w h hR⟩
 | o::rest,k,listed,ρ,H,a,w,hl,hb,hB,h,hR=>by
  have h0:ops[k]?=some o:=by simpa using(hl 0).symm
  simp only[List.length_cons,Region.seqB,Bool.and_eq_true,decide_eq_true_eq]at hB;refine⟨by grind,fun i hi=>?_⟩;rw[hB.1]at hi;have O:i=k:=by grind
  subst O;obtain⟨S,hS,hF,hG,hN,hd,hn⟩:=hR;have he:=C1 (K':=fun F w'=>F.defers=[]/\Cb Sb wb w'/\∀J,Rw w' J->mD P .any ops (Cb Sb wb) Rw Q' rest.length (listed.setIfInBounds i true) F J) (Q':=fun _ _ _=>False) A hS hF hG hN hd hn (hb o (by simp))
   (fun U H' F w' E T=>by
    refine⟨?_,?_,fun J h2=>Mb A Z rest (i+1) _ U H' F J (fun j=>by have:=hl (j+1);grind) (fun o ho=>hb o (by grind)) hB.2 E (T.rw h2)⟩
    ·obtain⟨S',_,_,_,_,aa,_⟩:=T;omega
    ·obtain⟨S',_,_,Y,_⟩:=T;exact Y.cb) h
  unfold gOp;simp only[h0];by_cases X:Region.wanted o (yielded ops a.tmps)=true
  ·rw[if_pos X];exact zH (fun v w' E=>E.2) (FZ (fun a w E=>E.1) (he.1 X))
  ·rw[if_neg X];exact(he.2 (by grind)).2
def Jq{Q':Exit->Act->World->Prop}{wb:World}{Sb:Sg}(E:∀o∈ops,lQ n o=true)(Z:Region.noSelect ops=true)(F:St Sb wb bY){g:Nat}
  (hK:∀ρ a A w,K ρ bY->Rw wb w->FR Sb wb ρ a->a.defers=[]->a.tmps.size=n->∀k,Region.seqB .any ops g k A=true->k=ops.size-g->mD P .any ops (Cb Sb wb) Rw Q' g A a w):
  ∀(l:List Oper) (k:Nat) (A:Array Bool) (ρ:Env) (a:Act),(∀j,j<l.length->l[j]?=ops[k+j]?)->k+l.length=ops.size-g->(∀o∈l,lQ n o=true)->Region.lexHead .any ops g l.length k A=true ->
   yY P (bK P) (dS P) mt true ops K l ρ bY->FR Sb wb ρ a->a.defers=[]->a.tmps.size=n->∀w,Rw wb w->mD P .any ops (Cb Sb wb) Rw Q' (l.length+g) A a w
 | [],k,A,ρ,a,_,hk,_,hB,h,hF,hd,hn,w,hC=>by rw[List.length_nil,Nat.zero_add];exact hK ρ a A w h hC hF hd hn k hB (by omega)
 | o::rest,k,A,ρ,a,hl,hk,hb,hB,h,hF,hd,hn,w,hC=>by
  have h0:ops[k]?=some o:=by simpa using(hl 0 (by simp)).symm
  simp only[List.length_cons,Region.lexHead,Bool.and_eq_true]at hB;obtain⟨⟨T,hf⟩,aa⟩:=hB;obtain⟨z,hz,h1,X⟩:=Df (CC:=Cb Sb wb) (fun w J=>⟨J.st F,J.agree F⟩) E F hF hn (hb o (by simp)) h;have next:∀v,rep Sb wb z v->∀U,Rw w U->mD P .any ops (Cb Sb wb) Rw Q' (rest.length+g) (A.setIfInBounds k true) (a.put o.dst v) U:=fun v Y U X=>Jq E Z F hK rest (k+1) _ _ _ (fun j hj=>by simp_all;grind) (by grind) (fun o ho=>hb o (by grind)) aa hz (FR.put hF Y) (by grind[sL]) (by grind[BS]) U (hC.trans X)
  rw[List.length_cons,show rest.length+1+g=(rest.length+g)+1 by omega];by_cases hw:Region.wanted o (yielded ops a.tmps)=true
  ·obtain⟨v,Y,hq⟩:=h1 hw;exact nZ h0 (Region.noSelect_spec Z) Rw.refl (fun _ _ _=>Rw.trans) (fun _ _ J T=>J.rw F T) _ A a w (hC.cb F) (Region.free_spec h0 hf) (by grind) (.inl ⟨hw,hq⟩) (next v Y)
  ·have O:Region.wanted o (yielded ops a.tmps)=false:=by grind
   exact nZ h0 (Region.noSelect_spec Z) Rw.refl (fun _ _ _=>Rw.trans) (fun _ _ J T=>J.rw F T) _ A a w (hC.cb F) (Region.free_spec h0 hf) (by grind) (.inr ⟨O,rfl⟩) (next _ (X O))
def UZ{Q':Exit->Act->World->Prop}{id m:Nat}(hm:P.follows .mixedOrders=true)(A:∀o∈ops,lQ n o=true)(hB:ZK ops m=true)
  (h:yY P (bK P) (dS P) mt true ops (fun E _=>yY P (bK P) (dS P) mt false ops K (ops.toList.drop m) E H) (ops.toList.take m) ρ bY)
  (hR:Rel n S0 w0 H0 ρ H a w) (hQ:∀ρ H a w,K ρ H->Rel n S0 w0 H0 ρ H a w->Q' .normal a w):(Code.region id ops true).wp P Q' a w:=by
 obtain⟨S,hS,hF,hG,hN,hd,hn⟩:=hR;simp only[ZK,Bool.and_eq_true,decide_eq_true_eq]at hB;obtain⟨⟨hs,ak⟩,ai⟩:=hB
 let w1:World:={ w with drawn:=w.drawn+1 }
 have J:St S w1 H:=hS.after (Nat.le_refl _) fun _ _=>rfl
 have Y:Grow S w S w1:=hS.grow rfl rfl rfl (Nat.le_refl _) fun _ _=>rfl
 have ae:FR S w1 ρ a:=hF.keep S.le_refl (Y.kept hS);have ac:St S w1 bY:=J.drop fun k r Z=>by grind[bY]
 refine wp_region_any hm (AP (C:=Cb S w1) (R:=Rw) Rw.refl _ _ _ _ ?_);have al:(ops.toList.take m).length=m:=by grind
 have:=Jq (Q':=Q') (g:=ops.size-m) (wb:=w1) (Sb:=S) A hs ac (K:=fun E _=>yY P (bK P) (dS P) mt false ops K (ops.toList.drop m) E H) (fun E a' F w' Z O T U X k ah aj=>by
  have ab:k=m:=by omega
  subst ab;have hx:=Mb (Q':=Q') (wb:=w1) (Sb:=S) (Hb:=H) A (K:=K) (fun ρ H a w Z hr=>by
   obtain⟨S',aa,T,af,ag,U,X⟩:=hr;exact hQ ρ H a w Z ⟨S',aa,T,hG.trans (Y.trans af),hN.trans ag hG.le.N,U,X⟩) (ops.toList.drop k) k F E H a' w' (fun j=>by simp) (fun o ho=>A o (Array.mem_toList_iff.1 (List.mem_of_mem_drop ho)))
   (by grind) Z ?_
  ·grind
  ·have hg:=J.grow O.1 O.2.1 O.2.2.1 O.2.2.2.1 O.2.2.2.2;exact⟨S,J.after O.2.2.2.1 O.2.2.2.2,T.keep S.le_refl (hg.kept J),hg,gC.refl _ _,U,X⟩) (ops.toList.take m) 0 (Array.replicate ops.size false) ρ a (fun j hj=>by grind) (by omega) (fun o ho=>A o (Array.mem_toList_iff.1 (List.mem_of_mem_take ho))) (by grind) h ae hd hn w1 (Rw.refl w1)
 grind
def CA{C A:World->Prop}{R:World->World->Prop}{Q':Exit->Act->World->Prop}(h:∀w,A w->C w):∀(f:Nat) (listed:Array Bool) (a:Act) (w:World),mD P .any ops A R Q' f listed a w->mD P .any ops C R Q' f listed a w
 | 0,_,_,_,hw=>hw
 | f+1,_,_,_,hw=>⟨hw.1,fun i O=>KE (fun T w' E=>⟨h w' E.1,fun F J=>CA h f _ _ _ (E.2 F J)⟩) (hw.2 i O)⟩
def Cb.mono{S S':Sg}{w w' E:World}{H:aG}(J:St S w H)(A:Grow S w S' w')(h:Cb S' w' E):Cb S w E:=
 ⟨h.1.trans A.os,h.2.1.trans A.tape,h.2.2.1.trans A.output,Nat.le_trans A.size h.2.2.2.1,fun k F=>(h.2.2.2.2 k (A.fz k F)).trans (A.same k F)⟩
def Ca{Q':Exit->Act->World->Prop}(A:∀o∈ops,lQ n o=true)(E:Region.noSelect ops=true)(hQ:∀ρ H a w,K ρ H->Rel n S0 w0 H0 ρ H a w->Q' .normal a w):
  ∀(f:List (Nat×Bool)) (listed:Array Bool) (ρ:Env) (H:aG) (a:Act) (w:World) (S:Sg),tJ ops f listed=true ->
   BF P (bK P) (dS P) mt ops K f ρ H->St S w H->FR S w ρ a->Grow S0 w0 S w->gC S0.N H0 H->a.defers=[]->a.tmps.size=n->∀J,Rw w J->mD P .any ops (Cb S w) Rw Q' f.length listed a J
 | [],listed,ρ,H,a,w,S,hB,h,hS,hF,hG,hN,hd,hn,J,h2=>by refine⟨by grind[tJ],hQ ρ H a J h (Rel.rw ⟨S,hS,hF,hG,hN,hd,hn⟩ h2)⟩
 | (k,true)::f,listed,ρ,H,a,w,S,hB,h,hS,hF,hG,hN,hd,hn,J,h2=>by
  simp only[tJ,Bool.and_eq_true]at hB;obtain⟨⟨X,hf⟩,af⟩:=hB;unfold BF at h;split at h
  ·rename_i o h0;rw[if_pos rfl]at h;have U:=A o (Array.mem_of_getElem? h0);obtain⟨z,hz,h1,h3⟩:=WZ (CC:=Cb S w) (K:=fun T=>BF P (bK P) (dS P) mt ops K f T H) (fun w Y=>⟨Y.st hS,Y.agree hS⟩) A hS hF hn U h;have next:∀v,rep S w z v->∀F,Rw w F->mD P .any ops (Cb S w) Rw Q' f.length (listed.setIfInBounds k true) (a.put o.dst v) F:=fun v hv F h3=>Ca A E hQ f _ _ H _ w S af hz hS (FR.put hF hv) hG hN (by grind[sL]) (by grind[BS]) F h3
   rw[List.length_cons];by_cases Z:Region.wanted o (yielded ops a.tmps)=true
   ·obtain⟨v,hv,hq⟩:=h1 Z;exact nZ h0 (Region.noSelect_spec E) Rw.refl (fun _ _ _=>Rw.trans) (fun _ _ Y X=>Y.rw hS X) _ listed a J (h2.cb hS) (Region.free_spec h0 hf) (by grind) (.inl ⟨Z,hq⟩) (fun F h3=>next v hv F (h2.trans h3))
   ·have aa:Region.wanted o (yielded ops a.tmps)=false:=by grind
    exact nZ h0 (Region.noSelect_spec E) Rw.refl (fun _ _ _=>Rw.trans) (fun _ _ Y X=>Y.rw hS X) _ listed a J (h2.cb hS) (Region.free_spec h0 hf) (by grind) (.inr ⟨aa,rfl⟩) (fun F al=>next _ (h3 aa) F (h2.trans al))
  grind
 | (k,false)::f,listed,ρ,H,a,w,S,hB,h,hS,hF,hG,hN,hd,hn,J,h2=>by
  simp only[tJ,Bool.and_eq_true,decide_eq_true_eq]at hB;unfold BF at h;split at h
  ·rename_i o h0;rw[if_neg (by simp)]at h;have U:=A o (Array.mem_of_getElem? h0);rw[List.length_cons];refine⟨by grind,fun i hi=>?_⟩;rw[hB.1]at hi;have ae:i=k:=by grind
   subst ae;have ab:=hS.grow h2.1 h2.2.1 h2.2.2.1 h2.2.2.2.1 h2.2.2.2.2;have ai:St S J H:=hS.after h2.2.2.2.1 h2.2.2.2.2;have ak:FR S J ρ a:=hF.keep S.le_refl (ab.kept hS);have he:=C1 (S0:=S) (w0:=J) (H0:=H) (K:=BF P (bK P) (dS P) mt ops K f) (K':=fun a' w'=>a'.defers=[]/\Cb S w w'/\∀F,Rw w' F->mD P .any ops (Cb S w) Rw Q' f.length (listed.setIfInBounds i true) a' F) (Q':=fun _ _ _=>False) A ai ak (Grow.refl S J) (gC.refl _ _) hd hn U
    (fun T H' a' w' hk X=>by obtain⟨S',ag,ah,am,an,ac,aj⟩:=X;have O:Grow S w S' w':=ab.trans am;refine⟨ac,O.cb,fun F h3=>?_⟩;refine CA (fun x hx=>Cb.mono hS O hx) _ _ _ _ (Ca A E hQ f _ T H' a' w' S' hB.2 hk ag ah (hG.trans O) (hN.trans an hG.le.N) ac aj F h3)) h
   unfold gOp;simp only[h0];by_cases Z:Region.wanted o (yielded ops a.tmps)=true
   ·rw[if_pos Z];exact zH (fun v w' hk=>hk.2) (FZ (fun a w hk=>hk.1) (he.1 Z))
   ·rw[if_neg Z];exact(he.2 (by grind)).2
  grind
def agC{Q':Exit->Act->World->Prop}{id:Nat}{f:List (Nat×Bool)}(hm:P.follows .mixedOrders=true)(A:∀o∈ops,lQ n o=true)(U:V6 ops f=true)
  (h:BF P (bK P) (dS P) mt ops K f ρ H)
  (Z:Rel n S0 w0 H0 ρ H a w) (hQ:∀ρ H a w,K ρ H->Rel n S0 w0 H0 ρ H a w->Q' .normal a w):(Code.region id ops true).wp P Q' a w:=by
 obtain⟨S,T,hF,hG,hN,X,Y⟩:=Z;simp only[V6,Bool.and_eq_true,decide_eq_true_eq]at U;obtain⟨⟨hs,aa⟩,F⟩:=U
 let w1:World:={ w with drawn:=w.drawn+1 }
 have O:St S w1 H:=T.after (Nat.le_refl _) fun _ _=>rfl
 have E:Grow S w S w1:=T.grow rfl rfl rfl (Nat.le_refl _) fun _ _=>rfl
 have J:FR S w1 ρ a:=hF.keep S.le_refl (E.kept T);refine wp_region_any hm (AP (C:=Cb S w1) (R:=Rw) Rw.refl _ _ _ _ ?_);have:=Ca (Q':=Q') A hs hQ f (Array.replicate ops.size false) ρ H a w1 S F h O J (hG.trans E) hN X Y w1 (Rw.refl w1)
 grind
structure Pin(S:Sg)(w:World)(Hp:aG):Prop where
 rows:Ct S w Hp
 fz:∀k r,Hp k=some r->∀g,blk (S.loc k)=some g->S.fz g/\¬S.ro g
 disj:∀k k' r r',Hp k=some r->Hp k'=some r'->k≠k'->∀g,blk (S.loc k)=some g->blk (S.loc k')≠some g
def axP(S:Sg)(Hp:aG)(g:Nat):Prop:=∃k r,Hp k=some r/\blk (S.loc k)=some g
def Sg.unpin(S:Sg)(Hp:aG):Sg:={ S with fz:=fun g=>S.fz g/\¬axP S Hp g }
def Sg.pin(S:Sg)(Hp:aG):Sg:={ S with fz:=fun g=>S.fz g\/axP S Hp g }
def Sg.le_unpin(S:Sg)(Hp:aG):S.le (S.unpin Hp):=⟨fun _ h=>h,Nat.le_refl _,fun _ _=>rfl,fun _ _=>rfl⟩
def Sg.unpin_le(S:Sg)(Hp:aG):(S.unpin Hp).le S:=⟨fun _ h=>h,Nat.le_refl _,fun _ _=>rfl,fun _ _=>rfl⟩
def Sg.le_pin(S:Sg)(Hp:aG):S.le (S.pin Hp):=⟨fun _ h=>h,Nat.le_refl _,fun _ _=>rfl,fun _ _=>rfl⟩
theorem Pin.merge{Hp Y:aG}(h:Pin S w Hp)(J:St S w H)(U:∀k r,Y k=some r->H k=some r\/Hp k=some r):St (S.unpin Hp) w Y:=by
 have hr:∀k r,Y k=some r->RowOK S w k r:=fun k r A=>by
  rcases U k r A with h1|h1
  ·exact J.rows k r h1
  ·exact h.rows k r h1
 refine⟨fun k A=>⟨J.ro_fz k A,fun⟨i,r,hi,E⟩=>(h.fz i r hi k E).2 A⟩,fun k A=>J.fz_lt k A.1,fun k r A=>(hr k r A).keep (S.le_unpin Hp) (gZ.refl S w) (fun _ _=>rfl),fun k r A g E Z=>?_,fun k k' r r' A X T g E F=>?_,J.tabs⟩
 ·rcases U k r A with h1|h1
  ·exact J.free k r h1 g E Z.1
  ·exact Z.2 ⟨k,r,h1,E⟩
 ·rcases U k r A with h1|h1 <;> rcases U k' r' X with O|O
  ·exact J.disj k k' r r' h1 O T g E F
  ·exact J.free k r h1 g E (h.fz k' r' O g F).1
  ·exact J.free k' r' O g F (h.fz k r h1 g E).1
  ·exact h.disj k k' r r' h1 O T g E F
def Pin.keep{Hp:aG}{S':Sg}{w':World}(h:Pin S w Hp)(U:St S w H)(A:Grow S w S' w'):Pin S' w' Hp:=by
 refine⟨fun k r E=>(h.rows k r E).keep A.le (A.kept U) (fun g F=>A.same g (h.fz k r E g F).1),fun k r E g F=>?_,fun k k' r r' E J O g F=>?_⟩
 ·rw[A.le.loc k (h.rows k r E).lt]at F;have h1:=h.fz k r E g F;refine⟨A.fz g h1.1,fun T=>?_⟩;rcases A.newro g T with h3|h3
  ·exact h1.2 h3
  ·exact h3 h1.1
 ·rw[A.le.loc k (h.rows k r E).lt]at F;rw[A.le.loc k' (h.rows k' r' J).lt];exact h.disj k k' r r' E J O g F
def Cb.pin{wb w:World}{H Hp:aG}(E:St S wb H)(F:Pin S wb Hp)(h:Cb S wb w):St (S.unpin Hp) w Hp/\Agree (S.unpin Hp) Hp wb w:=by have O:Grow S wb S w:=⟨S.le_refl,fun _ h=>h,h.1,h.2.1,h.2.2.1,h.2.2.2.1,h.2.2.2.2,fun _ h=>.inl h⟩;exact⟨(F.keep E O).merge (h.st E) (fun k r A=>.inr A),⟨fun k A=>h.2.2.2.2 k (E.ro_fz k A),fun k r A g J=>h.2.2.2.2 g (F.fz k r A g J).1⟩⟩
def vI{Q':Exit->Act->World->Prop}{Hp:aG}(O:∀o∈ops,lQ n o=true){i m:Nat}{o:Oper}{A:Array Bool}{K1:Env->aG->Prop}(h0:ops[i]?=some o)(h:aop P (bK P) (dS P) mt false ops o ρ H K1)
  (hS:St S w H) (hP:Pin S w Hp) (hF:FR S w ρ a) (hd:a.defers=[]) (hn:a.tmps.size=n) {Y:World} (U:Rw w Y)
  (next:∀J H' E w' S',K1 J H'->St S' w' H'->Pin S' w' Hp->FR S' w' J E->Grow S w S' w'->gC S.N H H'->E.defers=[]->E.tmps.size=n->∀F,Rw w' F->mD P .any ops (Cb S' w') Rw Q' m (A.setIfInBounds i true) E F):
  gOp P ops i (fun E w'=>Cb S w w'/\∀F,Rw w' F->mD P .any ops (Cb S w) Rw Q' m (A.setIfInBounds i true) E F) a Y:=by
 have aj:=O o (Array.mem_of_getElem? h0);have X:=hS.grow U.1 U.2.1 U.2.2.1 U.2.2.2.1 U.2.2.2.2;have aa:St S Y H:=hS.after U.2.2.2.1 U.2.2.2.2;have ag:Pin S Y Hp:=hP.keep hS X;have ai:FR S Y ρ a:=hF.keep S.le_refl (X.kept hS);have he:=C1 (S0:=S) (w0:=Y) (H0:=H) (K:=K1) (K':=fun E w'=>E.defers=[]/\Cb S w w'/\∀F,Rw w' F->mD P .any ops (Cb S w) Rw Q' m (A.setIfInBounds i true) E F) (Q':=fun _ _ _=>False) O aa ai (Grow.refl S Y) (gC.refl _ _) hd hn aj
  (fun J H' E w' Z hr=>by obtain⟨S',ae,af,ac,ak,ab,ah⟩:=hr;have T:Grow S w S' w':=X.trans ac;refine⟨ab,T.cb,fun F h3=>?_⟩;exact CA (fun x hx=>Cb.mono hS T hx) _ _ _ _ (next J H' E w' S' Z ae (ag.keep aa ac) af T ak ab ah F h3)) h
 unfold gOp;simp only[h0];by_cases hw:Region.wanted o (yielded ops a.tmps)=true
 ·rw[if_pos hw];exact zH (fun v w' Z=>Z.2) (FZ (fun a w Z=>Z.1) (he.1 hw))
 ·rw[if_neg hw];exact(he.2 (by grind)).2
def sJ{q:Bool}{k:Nat}{A:Env->aG->Prop}(h:Dh P (bK P) (dS P) mt q ops k ρ H A):∃o,ops[k]?=some o/\aop P (bK P) (dS P) mt q ops o ρ H A:=by grind[Dh]
def kO{Q':Exit->Act->World->Prop}{Hp:aG}(A:∀o∈ops,lQ n o=true)(E:Region.noSelect ops=true)
  (hQ:∀ρ H a w S,K ρ H->St S w H->Pin S w Hp->FR S w ρ a->Grow S0 w0 S w->gC S0.N H0 H->a.defers=[]->a.tmps.size=n->Q' .normal a w):
  ∀(t:Mx) (m:Nat) (listed:Array Bool) (ρ:Env) (H:aG) (a:Act) (w:World) (S:Sg),fH ops t m listed=true ->
   nO P (bK P) (dS P) mt ops K Hp t ρ H->St S w H->Pin S w Hp->FR S w ρ a->Grow S0 w0 S w->gC S0.N H0 H->a.defers=[]->a.tmps.size=n->∀w2,Rw w w2->mD P .any ops (Cb S w) Rw Q' m listed a w2
 | .nil,m,listed,ρ,H,a,w,S,hB,h,hS,hP,hF,hG,hN,hd,hn,w2,h2=>by
  cases m with
  | succ m=>grind[fH]
  | zero=>have hg:=hS.grow h2.1 h2.2.1 h2.2.2.1 h2.2.2.2.1 h2.2.2.2.2;exact⟨by grind[fH],hQ ρ H a w2 S h (hS.after h2.2.2.2.1 h2.2.2.2.2) (hP.keep hS hg) (hF.keep S.le_refl (hg.kept hS)) (hG.trans hg) hN hd hn⟩
 | .q k t,m,listed,ρ,H,a,w,S,hB,h,hS,hP,hF,hG,hN,hd,hn,w2,h2=>by
  cases m with
  | zero=>simp[fH]at hB
  | succ m=>
   simp only[fH,Bool.and_eq_true]at hB;obtain⟨⟨hr,hf⟩,ae⟩:=hB;obtain⟨o,h0,h⟩:=sJ h;have ah:=A o (Array.mem_of_getElem? h0);obtain⟨z,hz,h1,h3⟩:=Df (S:=S.unpin Hp) (CC:=Cb S w) (K:=fun F _=>nO P (bK P) (dS P) mt ops K Hp t F H) (fun w hc=>hc.pin hS hP) A (hP.merge hS fun k r hk=>.inr hk) (hF.keep (S.le_unpin Hp) (gZ.refl S w)) hn ah h;have next:∀v,rep (S.unpin Hp) w z v->∀w3,Rw w w3->mD P .any ops (Cb S w) Rw Q' m (listed.setIfInBounds k true) (a.put o.dst v) w3:=fun v hv w3 h3=>kO A E hQ t m _ _ H _ w S ae hz hS hP (FR.put hF (nS (S.unpin_le Hp) (gZ.refl (S.unpin Hp) w) _ _ hv)) hG hN (by grind[sL]) (by grind[BS]) w3 h3
   by_cases hw:Region.wanted o (yielded ops a.tmps)=true
   ·obtain⟨v,hv,hq⟩:=h1 hw;exact nZ h0 (Region.noSelect_spec E) Rw.refl (fun _ _ _=>Rw.trans) (fun _ _ hc hr=>hc.rw hS hr) _ listed a w2 (h2.cb hS) (Region.free_spec h0 hf) (by grind) (.inl ⟨hw,hq⟩) (fun w3 h3=>next v hv w3 (h2.trans h3))
   ·have ab:Region.wanted o (yielded ops a.tmps)=false:=by grind
    exact nZ h0 (Region.noSelect_spec E) Rw.refl (fun _ _ _=>Rw.trans) (fun _ _ hc hr=>hc.rw hS hr) _ listed a w2 (h2.cb hS) (Region.free_spec h0 hf) (by grind) (.inr ⟨ab,rfl⟩) (fun w3 ag=>next _ (h3 ab) w3 (h2.trans ag))
 | .a1 k t,m,listed,ρ,H,a,w,S,hB,h,hS,hP,hF,hG,hN,hd,hn,w2,h2=>by
  cases m with
  | zero=>simp[fH]at hB
  | succ m=>simp only[fH,Bool.and_eq_true,decide_eq_true_eq]at hB;obtain⟨o,h0,g⟩:=sJ h;refine⟨by grind,fun i hi=>?_⟩;rw[hB.1]at hi;simp only[List.mem_cons,List.not_mem_nil,or_false]at hi;subst hi;exact vI A h0 g hS hP hF hd hn h2 fun F H' a' w' S' hk J U O Y Z T X w3 h3=>kO A E hQ t m _ F H' a' w' S' hB.2 hk J U O (hG.trans Y) (hN.trans Z hG.le.N) T X w3 h3
 | .a2 k t k' t',m,listed,ρ,H,a,w,S,hB,h,hS,hP,hF,hG,hN,hd,hn,w2,h2=>by
  cases m with
  | zero=>simp[fH]at hB
  | succ m=>
   simp only[fH,Bool.and_eq_true,decide_eq_true_eq]at hB;obtain⟨h,h'⟩:=h;obtain⟨o,h0,g⟩:=sJ h;obtain⟨o',aa,g'⟩:=sJ h';refine⟨by grind,fun i hi=>?_⟩;rw[hB.1.1]at hi;simp only[List.mem_cons,List.not_mem_nil,or_false]at hi;rcases hi with rfl|rfl
   ·exact vI A h0 g hS hP hF hd hn h2 fun F H' a' w' S' hk J U O Y Z T X w3 h3=>kO A E hQ t m _ F H' a' w' S' hB.1.2 hk J U O (hG.trans Y) (hN.trans Z hG.le.N) T X w3 h3
   ·exact vI A aa g' hS hP hF hd hn h2 fun F H' a' w' S' hk J U O Y Z T X w3 h3=>kO A E hQ t' m _ F H' a' w' S' hB.2 hk J U O (hG.trans Y) (hN.trans Z hG.le.N) T X w3 h3
 | .a3 k t k' t' k'' t'',m,listed,ρ,H,a,w,S,hB,h,hS,hP,hF,hG,hN,hd,hn,w2,h2=>by
  cases m with
  | zero=>simp[fH]at hB
  | succ m=>
   simp only[fH,Bool.and_eq_true,decide_eq_true_eq]at hB;obtain⟨h,h',af⟩:=h;obtain⟨o,h0,g⟩:=sJ h;obtain⟨o',aa,g'⟩:=sJ h';obtain⟨aj,ac,ai⟩:=sJ af;refine⟨by grind,fun i hi=>?_⟩;rw[hB.1.1.1]at hi;simp only[List.mem_cons,List.not_mem_nil,or_false]at hi;rcases hi with rfl|rfl|rfl
   ·exact vI A h0 g hS hP hF hd hn h2 fun F H' a' w' S' hk J U O Y Z T X w3 h3=>kO A E hQ t m _ F H' a' w' S' hB.1.1.2 hk J U O (hG.trans Y) (hN.trans Z hG.le.N) T X w3 h3
   ·exact vI A aa g' hS hP hF hd hn h2 fun F H' a' w' S' hk J U O Y Z T X w3 h3=>kO A E hQ t' m _ F H' a' w' S' hB.1.2 hk J U O (hG.trans Y) (hN.trans Z hG.le.N) T X w3 h3
   ·exact vI A ac ai hS hP hF hd hn h2 fun F H' a' w' S' hk J U O Y Z T X w3 h3=>kO A E hQ t'' m _ F H' a' w' S' hB.2 hk J U O (hG.trans Y) (hN.trans Z hG.le.N) T X w3 h3
def XJ{Q':Exit->Act->World->Prop}{id:Nat}{l:List Nat}{t:Mx}(hm:P.follows .mixedOrders=true)(ab:∀o∈ops,lQ n o=true)(hl:∀k,k∈l->(H k).isSome=true)(hB:G9 ops t=true)
  (h:∀Hp T:aG,(∀k,k∈l->Hp k=H k)->(∀k,k∉l->T k=H k)->(∀k,k∉l->Hp k=none)->(∀k,k∈l->T k=none)->nO P (bK P) (dS P) mt ops (sN l H K) Hp t ρ T)
  (hR:Rel n S0 w0 H0 ρ H a w) (hQ:∀ρ H a w,K ρ H->Rel n S0 w0 H0 ρ H a w->Q' .normal a w):(Code.region id ops true).wp P Q' a w:=by
 obtain⟨S,hS,hF,hG,hN,hd,hn⟩:=hR;simp only[G9,Bool.and_eq_true]at hB;obtain⟨hs,ac⟩:=hB
 let Hp:aG:=fun k=>if k∈l then H k else none
 let T:aG:=fun k=>if k∈l then none else H k
 have am:∀k,k∈l->Hp k=H k:=fun k A=>if_pos A
 have aw:∀k,k∉l->Hp k=none:=fun k A=>if_neg A
 have ar:∀k,k∉l->T k=H k:=fun k A=>if_neg A
 have af:∀k,k∈l->T k=none:=fun k A=>if_pos A
 have J:∀k r,Hp k=some r->H k=some r/\k∈l:=fun k r A=>by grind
 have O:∀k r,T k=some r->H k=some r/\k∉l:=fun k r A=>by grind
 let w1:World:={ w with drawn:=w.drawn+1 }
 have E:St S w1 H:=hS.after (Nat.le_refl _) fun _ _=>rfl
 have ag:Grow S w S w1:=hS.grow rfl rfl rfl (Nat.le_refl _) fun _ _=>rfl
 have ax:FR S w1 ρ a:=hF.keep S.le_refl (ag.kept hS);have aj:St (S.pin Hp) w1 T:=by
  refine⟨fun k A=>.inl (E.ro_fz k A),fun k A=>?_,fun k r A=>(E.rows k r (O k r A).1).keep (S.le_pin Hp) (gZ.refl S w1) (fun _ _=>rfl),fun k r A g U hf=>?_,fun k k' r r' A Z aa g U Y=>E.disj k k' r r' (O k r A).1 (O k' r' Z).1 aa g U Y,E.tabs⟩
  ·rcases A with h1|⟨i,r,hi,U⟩
   ·exact E.fz_lt k h1
   ·exact(E.rows i r (J i r hi).1).block_lt U
  ·rcases hf with h1|⟨i,r',hi,Y⟩
   ·exact E.free k r (O k r A).1 g U h1
   ·exact E.disj k i r r' (O k r A).1 (J i r' hi).1 (fun e=>(O k r A).2 (e▸(J i r' hi).2)) g U Y
 have ai:Pin (S.pin Hp) w1 Hp:=by refine⟨fun k r A=>(E.rows k r (J k r A).1).keep (S.le_pin Hp) (gZ.refl S w1) (fun _ _=>rfl),fun k r A g U=>⟨.inr ⟨k,r,A,U⟩,fun h1=>E.free k r (J k r A).1 g U (E.ro_fz g h1)⟩,fun k k' r r' A Z aa g U=>E.disj k k' r r' (J k r A).1 (J k' r' Z).1 aa g U⟩
 refine wp_region_any hm (AP (C:=Cb (S.pin Hp) w1) (R:=Rw) Rw.refl _ _ _ _ ?_);have:=kO (Q':=Q') (Hp:=Hp) (K:=sN l H K) (S0:=S.pin Hp) (w0:=w1) (H0:=T) ab hs (fun an H' a' w' S' A au ap al F ae ao aq=>by
  have X:∀k,k∈l->H' k=none:=fun k A=>by obtain⟨r,hr⟩:=Option.isSome_iff_exists.1 (hl k A);exact ae k (hS.rows k r hr).lt (af k A)
  let Hm:aG:=fun k=>if k∈l then H k else H' k
  have av:∀k,k∈l->Hm k=H k:=fun k A=>if_pos A
  have ah:∀k,k∉l->Hm k=H' k:=fun k A=>if_neg A
  refine hQ an Hm a' w' (A X Hm av ah) ⟨S'.unpin Hp,ap.merge au (fun k r A=>?_),al.keep (S'.le_unpin Hp) (gZ.refl S' w'),?_,?_,ao,aq⟩
  ·grind
  ·refine hG.trans (ag.trans ⟨⟨F.le.ro, F.le.N, F.le.loc, F.le.sz⟩, fun k A => ⟨F.fz k (.inl A), fun ⟨i, r, hi, hb⟩ => by
    have ay:=E.rows i r (J i r hi).1;have e:S'.loc i=S.loc i:=F.le.loc i ay.lt;rw[show(S'.loc i)=S.loc i from e]at hb;exact E.free i r (J i r hi).1 k hb A⟩,F.os,F.tape,F.output,F.size,fun k A=>F.same k (.inl A),fun k A=>by
    rcases F.newro k A with h2|h2
    ·exact .inl h2
    ·exact .inr fun h3=>h2 (.inl h3)⟩)
  ·intro k A h0;have hH:=hN k A h0;by_cases ak:k∈l
   ·grind
   ·rw[ah k ak];exact ae k (Nat.lt_of_lt_of_le A hG.le.N) (by grind)) t ops.size (Array.replicate ops.size false) ρ T a w1 (S.pin Hp) ac (h Hp T am ar aw af) aj ai (ax.keep (S.le_pin Hp) (gZ.refl S w1)) (Grow.refl _ _) (gC.refl _ _) hd hn w1 (Rw.refl w1)
 omega
end
end Go.Aw
end
section
namespace Go.Aw
open Go.RowKit
section
variable{P:Program}{n:Nat}{S0:Sg}{w0:World}{H0:aG}{mt:Nat->Bool}{ops:Array Oper}{K:Env->aG->Prop}{ρ:Env}{H:aG}{a:Act}{w:World}{S:Sg}
def KS(A:∀o∈ops,lQ n o=true){Q':Exit->Act->World->Prop}(J:∀ρ H a w,K ρ H->Rel n S0 w0 H0 ρ H a w->Q' .normal a w):
  ∀(l:List Oper) (ρ:Env) (H:aG) (a:Act) (w:World),(∀o∈l,lQ n o=true)->yY P (bK P) (dS P) mt false ops K l ρ H->Rel n S0 w0 H0 ρ H a w->wpList P ops Q' l a w
 | [],ρ,H,a,w,_,h,hR=>J ρ H a w h hR
 | o::rest,ρ,H,a,w,hl,h,hR=>by
  obtain⟨S,hS,X,Y,hN,T,hn⟩:=hR;have O:=C1 (K':=wpList P ops Q' rest) (Q':=Q') A hS X Y hN T hn (hl o (by simp))
   (fun E H' U w' hk Z=>KS A J rest E H' U w' (fun o ho=>hl o (by grind)) hk Z) h
  unfold wpList;by_cases F:Region.wanted o (yielded ops a.tmps)=true
  ·rw[if_pos F];exact .inl (O.1 F)
  ·rw[if_neg F];exact O.2 (by grind)
def Cls(S:Sg)(H:aG)(w1 w:World):Prop:=
 w.os=w1.os/\w.tape=w1.tape/\w.output=w1.output/\w1.heap.size<=w.heap.size/\∀k,k<w1.heap.size->w.heap[k]?=w1.heap[k]?
def Cls.st{w1:World}(A:St S w1 H)(h:Cls S H w1 w):St S w H:=A.after h.2.2.2.1 h.2.2.2.2
def Cls.grow{w1:World}(A:St S w1 H)(h:Cls S H w1 w):Grow S w1 S w:=A.grow h.1 h.2.1 h.2.2.1 h.2.2.2.1 h.2.2.2.2
def Cls.agree{w1:World}(A:St S w1 H)(h:Cls S H w1 w):Agree S H w1 w:=
 ⟨(h.grow A).kept A,fun k r F g E=>h.2.2.2.2 g ((A.rows k r F).block_lt E)⟩
def XG{P:Program}{o:Oper}{a:Act}{w w1:World}{v:Value}(A:Cls S H w1 w)(h:o.quietAt P a (Rw w) w v):o.quietAt P a (Cls S H w1) w v:=by
 unfold Oper.quietAt at *;generalize (execOp a.eval o).run P w=r at *;cases r with
 | ok m w'=>
  cases m <;> simp only[Oper.quietUpon]at h |-
  case value u=>exact h
  case skip=>exact h
  case enter f args=>exact⟨h.1,h.2.mono fun e Y ⟨X,F,O,J,T,U⟩=>⟨X,F.trans A.1,O.trans A.2.1,J.trans A.2.2.1,Nat.le_trans A.2.2.2.1 T,fun k E=>(U k (Nat.lt_of_lt_of_le E A.2.2.2.1)).trans (A.2.2.2.2 k E)⟩⟩
 | halt x w'=>grind[Oper.quietUpon]
def JN{w1:World}(E:∀o∈ops,lQ n o=true)(O:St S w1 H):∀(l:List Oper) (ρ:Env) (a:Act),(∀o∈l,lQ n o=true)->yY P (bK P) (dS P) mt true ops K l ρ H->FR S w1 ρ a->a.defers=[]->a.tmps.size=n ->
  wpQuiet P ops (Cls S H w1) (fun F=>∃A,K A H/\FR S w1 A F/\F.defers=[]/\F.tmps.size=n) l a
 | [],ρ,a,_,h,hF,hd,hn=>⟨ρ,h,hF,hd,hn⟩
 | o::rest,ρ,a,hl,h,hF,hd,hn=>by
  obtain⟨z,X,h1,Z⟩:=Df (CC:=Cls S H w1) (fun w J=>⟨J.st O,J.agree O⟩) E O hF hn (hl o (by simp)) h;have next:∀v,rep S w1 z v->wpQuiet P ops (Cls S H w1) (fun F=>∃A,K A H/\FR S w1 A F/\F.defers=[]/\F.tmps.size=n) rest (a.put o.dst v):=fun v T=>JN E O rest _ _ (fun o ho=>hl o (by grind)) X (FR.put hF T) (by grind[sL]) (by grind[BS])
  unfold wpQuiet;by_cases U:Region.wanted o (yielded ops a.tmps)=true
  ·rw[if_pos U];obtain⟨v,T,Y⟩:=h1 U;exact⟨v,fun w J=>XG J (Y w J),next v T⟩
  grind
end
def AZ{P:Program}{ops:Array Oper}{C:World->Prop}{Q Q':Act->Prop}(E:∀a,Q a->Q' a):∀(l:List Oper) (a:Act),wpQuiet P ops C Q l a->wpQuiet P ops C Q' l a
 | [],a,h=>E a h
 | o::rest,a,h=>by
  unfold wpQuiet at h |-;split
  ·rename_i A;rw[if_pos A]at h;exact Oper.quiet_mono (fun F J=>AZ E rest F J) h
  ·rename_i A;rw[if_neg A]at h;exact AZ E rest _ h
def BE(n:Nat):Code->Bool
 | .region _ ops _=>ops.all (lQ n)
 | .seq a b=>BE n a&&BE n b
 | .cond c a b=>opB n c&&(BE n a&&BE n b)
 | .block _ c=>BE n c
 | .loop c=>BE n c
 | .scope c=>BE n c
 | _=>true
def abE(n:Nat)(S0:Sg)(w0:World)(H0:aG)(Q:Ex->Env->aG->Prop):Exit->Act->World->Prop
 | .normal,a,w=>∃ρ H,Q .normal ρ H/\Rel n S0 w0 H0 ρ H a w
 | .exit id,a,w=>∃ρ H,Q (.exit id) ρ H/\Rel n S0 w0 H0 ρ H a w
 | .ret,a,w=>∃ρ H,Q .ret ρ H/\Rel n S0 w0 H0 ρ H a w
 | _,_,_=>False
def qA{P:Program}{n:Nat}{S0:Sg}{w0:World}{H0:aG}{mt:Nat->Bool}(X:P.follows .mixedOrders=true):∀(c:Code) (Q:Ex->Env->aG->Prop) (ρ:Env) (H:aG) (a:Act) (w:World),BE n c=true ->
  awp P (bK P) (dS P) mt c Q ρ H->Rel n S0 w0 H0 ρ H a w->c.wp P (abE n S0 w0 H0 Q) a w
 | .skip,Q,ρ,H,a,w,_,h,A=>wp_skip ⟨ρ,H,h,A⟩
 | .region id ops false,Q,ρ,H,a,w,hb,h,A=>by
  rw[JU]at h;have E:∀o∈ops,lQ n o=true:=fun o Z=>Array.all_eq_true_iff_forall_mem.1 hb o Z
  exact wp_region_list (KS E (fun ρ H a w O T=>⟨ρ,H,O,T⟩) ops.toList ρ H a w (fun o Z=>E o (Array.mem_toList_iff.1 Z)) h A)
 | .region id ops true,Q,ρ,H,a,w,hb,h,A=>by
  rw[Rl]at h;have E:∀o∈ops,lQ n o=true:=fun o Z=>Array.all_eq_true_iff_forall_mem.1 hb o Z
  rcases h with⟨_,ab,h⟩|⟨hB,h⟩|⟨f,hB,h⟩|⟨l,t,hl,hB,h⟩
  ·obtain⟨S,hS,hF,hG,hN,hd,hn⟩:=A
   let w1:World:={ w with drawn:=w.drawn+1 }
   have U:St S w1 H:=hS.after (Nat.le_refl _) fun _ _=>rfl
   have aa:Grow S w S w1:=hS.grow rfl rfl rfl (Nat.le_refl _) fun _ _=>rfl
   have ag:FR S w1 ρ a:=hF.keep S.le_refl (aa.kept hS);refine wp_region_quiet (C:=Cls S H w1) X ab ⟨rfl,rfl,rfl,Nat.le_refl _,fun _ _=>rfl⟩ ?_;have:=JN E U ops.toList ρ a (fun o Z=>E o (Array.mem_toList_iff.1 Z)) h ag hd hn;refine AZ (fun a' ⟨J,O,ac,ae,af⟩ w' hc=>?_) ops.toList a this;exact⟨J,H,O,S,hc.st U,ac.keep S.le_refl ((hc.grow U).kept U),hG.trans (aa.trans (hc.grow U)),hN,ae,af⟩
  ·exact UZ X E hB h A fun ρ H a w O T=>⟨ρ,H,O,T⟩
  ·exact agC X E hB h A fun ρ H a w O T=>⟨ρ,H,O,T⟩
  ·exact XJ X E hl hB h A fun ρ H a w O T=>⟨ρ,H,O,T⟩
 | .seq c d,Q,ρ,H,a,w,hb,h,A=>by
  simp only[BE,Bool.and_eq_true]at hb;rw[Zs]at h;refine wp_seq (wp_mono (qA X c _ ρ H a w hb.1 h A) fun e a' w' F=>?_);cases e <;> simp only[abE,Exit.then]at F |-
  case normal=>obtain⟨J,H',O,T⟩:=F;exact qA X d Q J H' a' w' hb.2 O T
  case exit id=>exact F
  case ret=>exact F
 | .cond c x y,Q,ρ,H,a,w,hb,h,A=>by
  simp only[BE,Bool.and_eq_true]at hb;rw[QW]at h;unfold Bf at h;split at h
  ·rename_i t ht;obtain⟨S,hS,hF,hG,hN,hd,hn⟩:=A;have e:=cV hF (x:=c) (hn▸hb.1);rw[ht]at e;simp only[rep]at e;have A:Rel n S0 w0 H0 ρ H a w:=⟨S,hS,hF,hG,hN,hd,hn⟩;exact wp_cond_split e (fun ht=>qA X x Q ρ H a w hb.2.1 (h.1 ht) A) (fun ht=>qA X y Q ρ H a w hb.2.2 (h.2 ht) A)
  grind
 | .block id c,Q,ρ,H,a,w,hb,h,A=>by
  rw[Nn]at h;refine wp_block (wp_mono (qA X c _ ρ H a w hb h A) fun e a' w' F=>?_);cases e <;> simp only[abE,Exit.inBlock]at F |-
  case normal=>exact F
  case ret=>exact F
  case exit i=>
   obtain⟨J,H',O,T⟩:=F;simp only[Ex.blk]at O
   grind
 | .loop c,Q,ρ,H,a,w,hb,h,A=>by
  rw[SE]at h;obtain⟨I,μ,h0,Y⟩:=h;refine wp_loop_ghost (fun m a w=>∃ρ H,I ρ H/\μ ρ H=m/\Rel n S0 w0 H0 ρ H a w) (μ ρ H) ⟨ρ,H,h0,rfl,A⟩ ?_;rintro m a' w' ⟨J,H',hI,rfl,ah⟩;refine wp_mono (qA X c _ J H' a' w' hb (Y J H' hI) ah) fun e a2 w2 F=>?_
  cases e <;> simp only[abE,Exit.then]at F |-
  case normal=>obtain⟨aj,H2,⟨O,ai⟩,T⟩:=F;grind
  case exit id=>exact F
  case ret=>exact F
 | .exit id,Q,ρ,H,a,w,_,h,A=>wp_exit ⟨ρ,H,h,A⟩
 | .ret,Q,ρ,H,a,w,_,h,A=>wp_ret ⟨ρ,H,h,A⟩
 | .rangeFunc ..,_,_,_,_,_,_,h,_=>by grind[awp]
 | .scope c,Q,ρ,H,a,w,hb,h,A=>by
  rw[MF]at h;refine wp_scope_straight (wp_mono (qA X c _ ρ H a w hb h A) fun e a' w' F=>?_);cases e <;> simp only[abE,Exit.noGoto]at F |-
  case normal=>exact F
  case exit id=>exact F
  case ret=>exact F
 | .label _,Q,ρ,H,a,w,_,h,A=>wp_label ⟨ρ,H,h,A⟩
 | .goto _,_,_,_,_,_,_,h,_=>by grind[awp]
 | .refuse _,_,_,_,_,_,_,h,_=>by grind[awp]
def H4(P:Program)(ρ:Env)(H:aG):List ResultVar->(List AV->Prop)->Prop
 | [],K=>K []
 | .tmp t::r,K=>H4 P ρ H r fun l=>K (ρ t::l)
 | .cell t ty::r,K=>match ldT P ty with
   | some l=>rM none H l (ρ t) fun x=>H4 P ρ H r fun xs=>K (x::xs)
   | none=>False
def aaH(R:AV->Prop):List AV->Prop
 | [x]=>R x
 | l=>R (.tup l)
def Lp(P:Program)(rs:List ResultVar)(R:AV->aG->Prop):Ex->Env->aG->Prop
 | .exit _,_,_=>False
 | _,ρ,H=>H4 P ρ H rs (aaH fun x=>R x H)
def auX(n:Nat):ResultVar->Bool
 | .tmp t=>decide (t<n)
 | .cell t _=>decide (t<n)
def Dz(fn:Func)(c:Code)(m:Nat):Bool:=BE fn.ntmps c&&fn.results.toList.all (auX fn.ntmps)&&decide (m<=fn.ntmps)
section
variable{P:Program}{S:Sg}{H:aG}{w:World}{ρ:Env}{a:Act}
def abO{G:Option Bool}{l:Option Nat}{x:AV}{K:AV->Prop}(h:rM G H l x K){u:Value}(A:rep S w x u):∃ad,u=.pointer (some ad):=by
 unfold rM at h
 grind[rep]
def Ow(tmps:Array Value):ResultVar->Sem Value
 | .tmp t=>pure (tmps.getD t undef)
 | .cell b t=>do loadVar t (<-asAddr (tmps.getD b undef))
theorem Xa(fn:Func)(A:Array Value):results fn A=(do
 let vs <-fn.results.mapM (Ow A)
 pure (if h:vs.size=1 then vs[0]else .tuple vs)):=by rfl
def BA(T:Ct S w H)(F:FR S w ρ a):∀(O:List ResultVar) (K:List AV->Prop),(∀r∈O,auX a.tmps.size r=true)->H4 P ρ H O K ->
  ∃l vs,K l/\(O.mapM (Ow a.tmps)).run P w=.ok vs w/\bJ S w l vs
 | [],K,_,h=>⟨[],[],h,by simp,by rfl⟩
 | .tmp t::r,K,hb,h=>by
  simp only[H4]at h;obtain⟨l,vs,h1,U,h3⟩:=BA T F r _ (fun x X=>hb x (by simp[X])) h;have J:t<a.tmps.size:=by simpa[auX]using hb (.tmp t) (by simp)
  refine⟨_,a.tmps.getD t undef::vs,h1,?_,?_⟩
  ·rw[List.mapM_cons];simp only[Ow,Sem.run_bind,Sem.run_pure,Result.andThen_ok];rw[U];rfl
  ·simp only[bJ];exact⟨_,_,rfl,F t J,h3⟩
 | .cell t ty::r,K,hb,h=>by
  simp only[H4]at h;split at h
  ·rename_i l Z;have J:t<a.tmps.size:=by simp_all[auX]
   obtain⟨z,hz,Y⟩:=HD (S:=S) (w:=w) Z T h;obtain⟨v,hv,E⟩:=Y trivial _ (F t J);obtain⟨ad,e⟩:=abO h (F t J);have A:=E w (Agree.refl S H w);rw[e]at A;simp only[Instr.loadAt,Instr.sureAddr,pure_bind]at A;obtain⟨l',vs,h1,U,h3⟩:=BA T F r _ (fun x X=>hb x (by grind)) hz;refine⟨_,v::vs,h1,?_,?_⟩
   ·simp_all[asAddr,Ow]
   grind[bJ]
  grind
def bK.body{f:FuncId}{fn:Func}{c:Code}{args:List AV}{R:AV->aG->Prop}(mt:Nat->Bool)(hm:P.follows .mixedOrders=true)(hf:P.funcs[f]?=some fn)(hb:fn.body=some c)(hc:Dz fn c args.length=true)
  (h:awp P (bK P) (dS P) mt c (Lp P fn.results.toList R) (Ip args) H):bK P f args H R:=by
 intro S w vals hS ha;simp only[Dz,Bool.and_eq_true,decide_eq_true_eq]at hc;obtain⟨⟨J,ac⟩,ae⟩:=hc;have ag:=iK _ _ ha;refine calls_of_wp hf hb (wp_mono (qA (n:=fn.ntmps) (S0:=S) (w0:=w) (H0:=H) hm c _ _ H _ w J h ⟨S,hS,?_,Grow.refl S w,gC.refl _ _,rfl,?_⟩) ?_)
 ·intro t ht;by_cases e:t<args.length
  ·obtain⟨u,h1,E⟩:=Ep args vals t ha e;simp_all[Ip]
  grind[Ip,rep]
 ·grind
 ·intro e X w' Y;have O:∀A H',H4 P A H' fn.results.toList (aaH fun x=>R x H')->Rel fn.ntmps S w H A H' X w'->X.defers=[]/\∃v,(results fn X.tmps).run P w'=.ok v w'/\ayU S w H R (.returned v) w':=by
   rintro A H' h1 ⟨S',F,aa,T,U,ab,ai⟩;refine⟨ab,?_⟩;obtain⟨l,vs,E,h3,h4⟩:=BA (P:=P) F.rows aa fn.results.toList _ (fun r hr=>by grind) h1;have hr:(results fn X.tmps).run P w'=.ok (if h:vs.toArray.size=1 then vs.toArray[0]else .tuple vs.toArray) w':=by grind[Xa,Array.mapM_eq_mapM_toList,Sem.run_bind,Sem.run_map,Result.andThen_ok,Sem.run_pure]
   refine⟨_,hr,?_⟩;unfold aaH at E;split at E
   ·rename_i x;simp only[bJ]at h4;obtain⟨u,t,rfl,h5,rfl⟩:=h4;exact⟨_,x,H',S',rfl,E,F,by grind,T,U⟩
   ·rename_i af;have ah:=iK _ _ h4;have Z:¬vs.toArray.size=1:=by
     intro e;have:l.length=1:=by grind
     match l,this with
     | [x],_=>grind
    rw[dif_neg Z];exact⟨_,_,H',S',rfl,E,F,by grind[rep],T,U⟩
  cases e <;> simp only[abE,bodyPost]at Y |-
  case normal=>obtain⟨A,H',h1,E⟩:=Y;exact O A H' h1 E
  case ret=>obtain⟨A,H',h1,E⟩:=Y;exact O A H' h1 E
  case exit id=>obtain⟨A,H',h1,E⟩:=Y;exact h1.elim
def RC.body{f:FuncId}{fn:Func}{c:Code}{args:List AV}{R:AV->aG->Prop}(mt:Nat->Bool)(J:P.follows .mixedOrders=true)(O:P.funcs[f]?=some fn)(E:fn.body=some c)(A:Dz fn c args.length=true)
 (h:awp P (bK P) (dS P) mt c (Lp P fn.results.toList R) (Ip args) bY):RC P f args R:=fun S w vals F _ T=>bK.body mt J O E A h S w vals F T
def PC.body{f:FuncId}{fn:Func}{c:Code}{args:List AV}{r:AV}(mt:Nat->Bool)(F:P.follows .mixedOrders=true)(J:P.funcs[f]?=some fn)(E:fn.body=some c)(A:Dz fn c args.length=true)
 (h:awp P (bK P) (dS P) mt c (Lp P fn.results.toList fun x H'=>Conv H' x r) (Ip args) bY):PC P f args r:=RC.conv (RC.body mt F J E A h)
def NC.body{f:FuncId}{fn:Func}{c:Code}{args:List AV}{row:Row}{A:Nat->AV}(mt:Nat->Bool)(J:P.follows .mixedOrders=true)(O:P.funcs[f]?=some fn)(F:fn.body=some c)(E:Dz fn c args.length=true)
 (h:awp P (bK P) (dS P) mt c (Lp P fn.results.toList fun x H'=>∃k,x=A k/\H' k=some row) (Ip args) bY):NC P f args row A:=RC.body mt J O F E h
def PC.q{f:FuncId}{args:List AV}{r:AV}(h:PC P f args r)(A:(fv r).isSome=true):dS P f args H r:=.inl ⟨args,ConvL.refl args,h,A⟩
def PC.qn{f:FuncId}{args:List AV}{r:AV}(h:PC P f args r):dS P f args H (.nf r):=.inr ⟨r,rfl,h⟩
def dS.use{f:FuncId}{args:List AV}{r:AV}{K:AV->aG->Prop}(h:Be P f args H r)(A:K r H):bK P f args H K:=Be.use h A
end
end Go.Aw
end
section
namespace Go.Proofs.YthephioccidfgaaGreatDoor.Ty
open Go.Aw Go.Proofs
theorem zP{P:Program}{t:TypeId}(h:(P.info? t).map (·.size)=some 1):∃i,P.info? t=some i/\i.size=1:=by
 cases A:P.info? t with
 | none=>simp[A]at h
 | some i=>exact⟨i,rfl,by simpa[A]using h⟩
theorem mixed:Tryz.prog.follows .mixedOrders=true:=by kernel_rfl
theorem aA8:cA Tryz.prog 56=some (4,1,1):=by kernel_rfl
theorem ayR:cA Tryz.prog 57=some (123,2,16):=by kernel_rfl
theorem axT:cA Tryz.prog 239=some (280,2,16):=by kernel_rfl
theorem DF:Vk Tryz.prog 186=some (3,3):=by kernel_rfl
theorem kk3:xJ Tryz.prog 3=some 0:=by kernel_rfl
theorem zv3:Oq Tryz.prog 3=some (.v (.int .i64 0)):=by kernel_rfl
theorem so3:∃i,Tryz.prog.info? 3=some i/\i.size=1:=zP (by kernel_rfl)
theorem so4:∃i,Tryz.prog.info? 4=some i/\i.size=1:=zP (by kernel_rfl)
theorem ayQ:∃i,Tryz.prog.info? 32=some i/\i.size=1:=zP (by kernel_rfl)
theorem alX:∃i,Tryz.prog.info? 63=some i/\i.size=1:=zP (by kernel_rfl)
theorem aqE:∃i,Tryz.prog.info? 124=some i/\i.size=1:=zP (by kernel_rfl)
theorem axV:∃i,Tryz.prog.info? 217=some i/\i.size=1:=zP (by kernel_rfl)
open Go.Proofs.Tryz(prog)
theorem tyJ0:LZ prog 3=some .i64/\LZ prog 5=some .u8/\eO prog 9=true/\Kv prog 176=true/\LZ prog 331=some .u64/\CN prog 4=true/\EW prog 123=some [0,2]/\EW prog 280=some [0,0]/\EW prog 344=some [0,0,0]/\aK prog 25 0=some (0,none)/\aK prog 25 1=some (1,none)/\aK prog 30 0=some (0,some 2)/\aK prog 30 1=some (2,none)/\aK prog 30 2=some (3,none)/\aK prog 30 3=some (4,none)/\aK prog 30 4=some (5,none)/\aK prog 34 0=some (0,none)/\aK prog 34 1=some (1,none)/\aK prog 37 0=some (0,none)/\aK prog 37 1=some (1,some 2)/\aK prog 37 2=some (3,none)/\aK prog 52 0=some (0,none)/\aK prog 52 1=some (1,none)/\aK prog 52 2=some (2,none)/\aK prog 52 3=some (3,none)/\aK prog 54 0=some (0,none)/\aK prog 54 1=some (1,none)/\aK prog 54 2=some (2,none)/\aK prog 54 3=some (3,none)/\aK prog 54 4=some (4,some 4)/\aK prog 54 5=some (8,none)/\aK prog 54 6=some (9,none)/\aK prog 59 0=some (0,none)/\aK prog 59 1=some (1,none)/\aK prog 59 2=some (2,none)/\aK prog 59 3=some (3,none)/\aK prog 68 0=some (0,some 6)/\aK prog 68 1=some (6,none)/\aK prog 68 2=some (7,none)/\aK prog 68 3=some (8,none):=by and_intros<;>kernel_rfl
theorem aBl:aK prog 76 0=some (0,none)/\aK prog 76 1=some (1,none)/\aK prog 76 2=some (2,none)/\aK prog 76 3=some (3,none)/\aK prog 78 0=some (0,none)/\aK prog 78 1=some (1,none)/\aK prog 78 2=some (2,some 4)/\aK prog 78 3=some (6,some 4)/\aK prog 78 4=some (10,none)/\aK prog 78 5=some (11,none)/\aK prog 78 6=some (12,none)/\aK prog 78 7=some (13,none)/\aK prog 78 8=some (14,none)/\aK prog 78 9=some (15,none)/\aK prog 82 0=some (0,none)/\aK prog 82 1=some (1,none)/\aK prog 82 2=some (2,none)/\aK prog 82 3=some (3,none)/\aK prog 102 0=some (0,none)/\aK prog 102 1=some (1,none)/\aK prog 102 2=some (2,none)/\aK prog 108 0=some (0,none)/\aK prog 108 1=some (1,none)/\aK prog 116 0=some (0,none)/\aK prog 116 1=some (1,none)/\aK prog 119 0=some (0,none)/\aK prog 119 1=some (1,none)/\aK prog 119 2=some (2,none)/\aK prog 119 3=some (3,none)/\aK prog 119 4=some (4,none)/\aK prog 119 5=some (5,none)/\aK prog 121 0=some (0,none)/\aK prog 121 1=some (1,none)/\aK prog 121 2=some (2,none)/\aK prog 121 3=some (3,none)/\aK prog 121 4=some (4,none)/\aK prog 121 5=some (5,none)/\aK prog 121 6=some (6,none)/\aK prog 121 7=some (7,none)/\aK prog 121 8=some (8,none):=by and_intros<;>kernel_rfl
theorem aBb:aK prog 121 9=some (9,none)/\aK prog 121 10=some (10,none)/\aK prog 121 11=some (11,none)/\aK prog 121 12=some (12,none)/\aK prog 121 13=some (13,none)/\aK prog 123 0=some (0,none)/\aK prog 123 1=some (1,none)/\aK prog 126 0=some (0,none)/\aK prog 126 1=some (1,none)/\aK prog 126 2=some (2,none)/\aK prog 126 3=some (3,none)/\aK prog 126 4=some (4,none)/\aK prog 134 0=some (0,none)/\aK prog 134 1=some (1,none)/\aK prog 153 0=some (0,none)/\aK prog 153 1=some (1,none)/\aK prog 153 2=some (2,none)/\aK prog 156 0=some (0,none)/\aK prog 156 1=some (1,none)/\aK prog 156 2=some (2,none)/\aK prog 156 3=some (3,some 4)/\aK prog 219 0=some (0,some 6)/\aK prog 219 1=some (6,some 14)/\aK prog 219 2=some (20,some 4)/\aK prog 219 3=some (24,none)/\aK prog 223 0=some (0,none)/\aK prog 223 1=some (1,none)/\aK prog 223 2=some (2,some 5)/\aK prog 236 0=some (0,some 6)/\aK prog 236 1=some (6,none)/\aK prog 236 2=some (7,none)/\aK prog 236 3=some (8,none)/\aK prog 236 4=some (9,some 7)/\aK prog 236 5=some (16,none)/\aK prog 253 0=some (0,none)/\aK prog 253 1=some (1,none)/\aK prog 280 0=some (0,none)/\aK prog 280 1=some (1,none)/\aK prog 301 2=some (2,none)/\aK prog 301 3=some (3,none):=by and_intros<;>kernel_rfl
theorem aAL:cA prog 22=some (9,1,16)/\cJ prog 22=true/\cA prog 23=some (119,6,80)/\cJ prog 23=true/\cA prog 26=some (121,14,136)/\cJ prog 26=true/\cA prog 27=some (78,16,152)/\cJ prog 27=true/\cA prog 28=some (92,2,16)/\cJ prog 28=true/\cA prog 31=some (59,4,64)/\cJ prog 31=true/\cA prog 32=some (3,1,8)/\cJ prog 32=true/\cA prog 35=some (54,10,112)/\cJ prog 35=true/\cA prog 47=some (134,2,24)/\cJ prog 47=true/\cA prog 49=some (102,3,24)/\cJ prog 49=true/\cA prog 50=some (74,1,16)/\cJ prog 50=true/\cJ prog 56=true/\cJ prog 57=true/\cA prog 63=some (52,4,32)/\cJ prog 63=true/\cA prog 66=some (156,7,88)/\cJ prog 66=true/\cA prog 69=some (63,1,24)/\cJ prog 69=true/\eO prog 74=true/\IL prog 92=some (2,1,none)/\cA prog 106=some (153,3,40)/\cJ prog 106=true/\cA prog 117=some (116,2,16)/\cJ prog 117=true/\cA prog 124=some (301,4,32)/\cJ prog 124=true/\IL prog 131=some (4,1,none)/\cA prog 137=some (41,1,8):=by and_intros<;>kernel_rfl
theorem ayZ:cJ prog 137=true/\cA prog 167=some (94,1,8)/\cJ prog 167=true/\cA prog 176=some (5,1,1)/\cA prog 211=some (32,1,24)/\cJ prog 211=true/\cA prog 217=some (76,4,32)/\cJ prog 217=true/\cA prog 225=some (223,7,72)/\cJ prog 225=true/\cJ prog 239=true/\cA prog 249=some (253,2,24)/\cJ prog 249=true/\cA prog 281=some (3,1,8)/\cJ prog 281=true/\IL prog 289=some (2,1,none)/\cA prog 313=some (289,2,32)/\cJ prog 313=true/\ldT prog 3=some none/\ldT prog 4=some none/\ldT prog 9=some none/\ldT prog 22=some none/\ldT prog 23=some none/\ldT prog 25=some (some 2)/\ldT prog 26=some none/\ldT prog 27=some none/\ldT prog 28=some none/\ldT prog 30=some (some 6)/\ldT prog 31=some none/\ldT prog 32=some none/\ldT prog 34=some (some 2)/\ldT prog 35=some none/\ldT prog 37=some (some 4)/\ldT prog 41=some none/\ldT prog 49=some none/\ldT prog 50=some none/\ldT prog 52=some (some 4)/\ldT prog 54=some (some 10)/\ldT prog 56=some none/\ldT prog 57=some none:=by and_intros<;>kernel_rfl
theorem aAK:ldT prog 59=some (some 4)/\ldT prog 63=some none/\ldT prog 66=some none/\ldT prog 74=some none/\ldT prog 76=some (some 4)/\ldT prog 78=some (some 16)/\ldT prog 82=some (some 4)/\ldT prog 92=some (some 2)/\ldT prog 94=some none/\ldT prog 102=some (some 3)/\ldT prog 106=some none/\ldT prog 108=some (some 2)/\ldT prog 116=some (some 2)/\ldT prog 117=some none/\ldT prog 119=some (some 6)/\ldT prog 121=some (some 14)/\ldT prog 123=some (some 2)/\ldT prog 124=some none/\ldT prog 126=some (some 5)/\ldT prog 131=some (some 4)/\ldT prog 153=some (some 3)/\ldT prog 156=some (some 7)/\ldT prog 217=some none/\ldT prog 219=some (some 25)/\ldT prog 223=some (some 7)/\ldT prog 229=some none/\ldT prog 253=some (some 2)/\ldT prog 280=some (some 2)/\ldT prog 289=some (some 2)/\ldT prog 344=some (some 3)/\dP prog 25=some [(0,1),(1,1)]/\dP prog 30=some [(0,2),(2,1),(3,1),(4,1),(5,1)]/\dP prog 34=some [(0,1),(1,1)]/\dP prog 37=some [(0,1),(1,2),(3,1)]/\dP prog 52=some [(0,1),(1,1),(2,1),(3,1)]/\dP prog 54=some [(0,1),(1,1),(2,1),(3,1),(4,4),(8,1),(9,1)]/\dP prog 59=some [(0,1),(1,1),(2,1),(3,1)]/\dP prog 68=some [(0,6),(6,1),(7,1),(8,1)]/\dP prog 76=some [(0,1),(1,1),(2,1),(3,1)]/\dP prog 78=some [(0,1),(1,1),(2,4),(6,4),(10,1),(11,1),(12,1),(13,1),(14,1),(15,1)]:=by and_intros<;>kernel_rfl
theorem aAj:dP prog 82=some [(0,1),(1,1),(2,1),(3,1)]/\dP prog 92=some [(0,1),(1,1)]/\dP prog 108=some [(0,1),(1,1)]/\dP prog 116=some [(0,1),(1,1)]/\dP prog 119=some [(0,1),(1,1),(2,1),(3,1),(4,1),(5,1)]/\dP prog 121=some [(0,1),(1,1),(2,1),(3,1),(4,1),(5,1),(6,1),(7,1),(8,1),(9,1),(10,1),(11,1),(12,1),(13,1)]/\dP prog 123=some [(0,1),(1,1)]/\dP prog 126=some [(0,1),(1,1),(2,1),(3,1),(4,1)]/\dP prog 131=some [(0,1),(1,1),(2,1),(3,1)]/\dP prog 134=some [(0,1),(1,1)]/\dP prog 153=some [(0,1),(1,1),(2,1)]/\dP prog 156=some [(0,1),(1,1),(2,1),(3,4)]/\dP prog 219=some [(0,6),(6,14),(20,4),(24,1)]/\dP prog 223=some [(0,1),(1,1),(2,5)]/\dP prog 236=some [(0,6),(6,1),(7,1),(8,1),(9,7),(16,1)]/\dP prog 253=some [(0,1),(1,1)]/\dP prog 280=some [(0,1),(1,1)]/\dP prog 289=some [(0,1),(1,1)]/\dP prog 301=some [(0,1),(1,1),(2,1),(3,1)]/\dP prog 344=some [(0,1),(1,1),(2,1)]/\dH prog 3=some [.v (.int .i64 0)]/\dH prog 4=some [.v (.bool false)]/\dH prog 9=some [.v (.string ByteArray.empty)]/\dH prog 25=some [.sl [],.sl []]/\dH prog 30=some [.sl [],.sl [],.sl [],.sl [],.sl [],.sl []]/\dH prog 32=some [.sl []]/\dH prog 34=some [.sl [],.sl []]/\dH prog 37=some [.v (.bool false),.sl [],.sl [],.sl []]/\dH prog 52=some [.v (.int .i64 0),.v (.int .i64 0),.v (.int .i64 0),.v (.int .i64 0)]/\dH prog 54=some [.v (.bool false),.v (.int .i64 0),.sl [],.sl [],.v (.int .i64 0),.v (.int .i64 0),.v (.int .i64 0),.v (.int .i64 0),.v (.int .i64 0),.v (.int .i64 0)]/\dH prog 59=some [.v (.int .i64 0),.v (.int .i64 0),.sl [],.sl []]/\dH prog 63=some [.sl []]/\dH prog 68=some [.sl [],.sl [],.sl [],.sl [],.sl [],.sl [],.sl [],.v (.int .i64 0),.v (.bool false)]/\dH prog 76=some [.v (.int .i64 0),.v (.int .i64 0),.v (.int .i64 0),.v (.int .i64 0)]/\dH prog 78=some [.v (.string ByteArray.empty),.sl [],.v (.int .i64 0),.v (.int .i64 0),.v (.int .i64 0),.v (.int .i64 0),.v (.int .i64 0),.v (.int .i64 0),.v (.int .i64 0),.v (.int .i64 0),.v (.int .i64 0),.v (.int .i64 0),.v (.int .i64 0),.v (.int .i64 0),.v (.int .i64 0),.v (.bool false)]/\dH prog 82=some [.v (.int .i64 0),.v (.int .i64 0),.v (.int .i64 0),.v (.int .i64 0)]/\dH prog 92=some [.v (.int .i64 0),.v (.int .i64 0)]/\dH prog 102=some [.v (.int .i64 0),.v (.int .i64 0),.v (.int .i64 0)]/\uO prog 108=some [(0,3,1),(1,153,3)]/\dH prog 108=some [.sl [],.sl []]:=by and_intros<;>kernel_rfl
theorem ayI:dH prog 116=some [.v (.int .i64 0),.v (.int .i64 0)]/\dH prog 119=some [.v (.int .i64 0),.v (.int .i64 0),.v (.int .i64 0),.v (.int .i64 0),.sl [],.sl []]/\dH prog 121=some [.v (.string ByteArray.empty),.v (.int .i64 0),.v (.int .i64 0),.v (.int .i64 0),.sl [],.v (.int .i64 0),.v (.int .i64 0),.v (.int .i64 0),.v (.int .i64 0),.v (.int .i64 0),.v (.int .i64 0),.v (.int .i64 0),.v (.int .i64 0),.v (.int .i64 0)]/\dH prog 123=some [.v (.int .i64 0),.v (.bool false)]/\dH prog 126=some [.v (.bool false),.v (.int .i64 0),.sl [],.v (.int .i64 0),.v (.int .i64 0)]/\dH prog 131=some [.v (.int .i64 0),.v (.int .i64 0),.v (.int .i64 0),.v (.int .i64 0)]/\dH prog 134=some [.v (.int .i64 0),.v (.string ByteArray.empty)]/\uO prog 153=some [(0,3,1)]/\dH prog 153=some [.sl [],.v (.int .i64 0),.v (.int .i64 0)]/\dH prog 156=some [.v (.int .i64 0),.v (.int .i64 0),.v (.int .i64 0),.v (.int .i64 0),.v (.int .i64 0),.sl [],.sl []]/\uO prog 219=some [(0,9,1),(1,119,6),(2,121,14),(3,78,16),(4,92,2),(5,92,2),(10,3,1),(22,4,1),(23,123,2),(24,76,4)]/\dH prog 219=some [.sl [],.sl [],.sl [],.sl [],.sl [],.sl [],.v (.string ByteArray.empty),.v (.int .i64 0),.v (.int .i64 0),.v (.int .i64 0),.sl [],.v (.int .i64 0),.v (.int .i64 0),.v (.int .i64 0),.v (.int .i64 0),.v (.int .i64 0),.v (.int .i64 0),.v (.int .i64 0),.v (.int .i64 0),.v (.int .i64 0),.v (.int .i64 0),.v (.int .i64 0),.sl [],.sl [],.sl []]/\dH prog 223=some [.v (.int .i64 0),.v (.int .i64 0),.v (.bool false),.v (.int .i64 0),.sl [],.v (.int .i64 0),.v (.int .i64 0)]/\dH prog 236=some [.sl [],.sl [],.sl [],.sl [],.sl [],.sl [],.v (.int .i64 0),.v (.int .i64 0),.v (.int .i64 0),.v (.int .i64 0),.v (.int .i64 0),.v (.int .i64 0),.v (.int .i64 0),.v (.int .i64 0),.sl [],.sl [],.v (.bool false)]/\dH prog 253=some [.v (.bool false),.v (.string ByteArray.empty)]/\dH prog 280=some [.v (.int .i64 0),.v (.int .i64 0)]/\dH prog 289=some [.v (.string ByteArray.empty),.v (.string ByteArray.empty)]/\dH prog 301=some [.v (.int .i64 0),.v (.int .i64 0),.v (.int .i64 0),.v (.bool false)]/\dH prog 344=some [.v (.int .i64 0),.v (.int .i64 0),.v (.int .i64 0)]/\aF prog 4=true/\aF prog 5=true/\aF prog 6=true/\aF prog 7=true/\aF prog 8=true/\aF prog 9=true/\aF prog 10=true/\aF prog 11=true/\aF prog 12=true/\aF prog 13=true/\aF prog 14=true/\aF prog 15=true/\aF prog 16=true/\aF prog 17=true/\aF prog 18=true/\aF prog 19=true/\aF prog 20=true/\aF prog 21=true/\aF prog 22=true/\aF prog 23=true/\aF prog 24=true:=by and_intros<;>kernel_rfl
theorem azJ:aF prog 25=true/\aF prog 26=true/\aF prog 27=true/\aF prog 28=true/\aF prog 29=true/\aF prog 30=true/\aF prog 31=true/\aF prog 33=true/\aF prog 36=true/\aF prog 37=true/\aF prog 38=true/\aF prog 39=true/\aF prog 40=true/\aF prog 41=true/\aF prog 42=true/\aF prog 43=true/\aF prog 44=true/\aF prog 45=true/\aF prog 46=true/\aF prog 47=true/\aF prog 48=true/\aF prog 49=true/\aF prog 50=true/\aF prog 51=true/\aF prog 52=true/\aF prog 53=true/\aF prog 54=true/\aF prog 55=true/\aF prog 56=true/\aF prog 57=true/\aF prog 58=true/\aF prog 59=true/\aF prog 60=true/\aF prog 61=true/\aF prog 62=true/\aF prog 63=true/\aF prog 64=true/\aF prog 65=true/\aF prog 66=true/\aF prog 67=true:=by and_intros<;>kernel_rfl
theorem aAR:aF prog 68=true/\aF prog 69=true/\aF prog 70=true/\aF prog 72=true/\aF prog 73=true/\aF prog 75=true/\aF prog 76=true/\aF prog 77=true/\aF prog 78=true/\aF prog 79=true/\aF prog 80=true/\aF prog 81=true/\aF prog 82=true/\aF prog 83=true/\aF prog 84=true/\aF prog 85=true/\aF prog 86=true/\aF prog 87=true/\aF prog 88=true/\aF prog 89=true/\aF prog 90=true/\aF prog 91=true/\aF prog 92=true/\aF prog 93=true/\aF prog 94=true/\aF prog 95=true/\aF prog 96=true/\aF prog 97=true/\aF prog 98=true/\aF prog 99=true/\aF prog 100=true/\aF prog 101=true/\aF prog 102=true/\aF prog 103=true/\aF prog 105=true/\aF prog 106=true/\aF prog 107=true/\aF prog 108=true/\aF prog 109=true/\aF prog 110=true:=by and_intros<;>kernel_rfl
theorem aAk:aF prog 111=true/\aF prog 112=true/\aF prog 113=true/\aF prog 114=true/\aF prog 115=true/\aF prog 116=true/\aF prog 117=true/\aF prog 118=true/\aF prog 119=true/\aF prog 120=true/\aF prog 121=true/\aF prog 122=true/\aF prog 123=true/\aF prog 124=true/\aF prog 125=true/\aF prog 126=true/\aF prog 127=true/\aF prog 128=true/\aF prog 129=true/\aF prog 130=true/\aF prog 131=true/\aF prog 132=true/\aF prog 133=true/\aF prog 135=true/\aF prog 136=true/\aF prog 140=true/\aF prog 141=true/\aF prog 142=true/\aF prog 143=true/\aF prog 144=true/\aF prog 145=true/\aF prog 146=true/\aF prog 147=true/\aF prog 148=true/\aF prog 149=true/\aF prog 150=true/\aF prog 151=true/\aF prog 152=true/\aF prog 153=true/\aF prog 154=true:=by and_intros<;>kernel_rfl
theorem aAs:aF prog 155=true/\aF prog 156=true/\aF prog 157=true/\aF prog 158=true/\aF prog 159=true/\aF prog 160=true/\aF prog 161=true/\aF prog 162=true/\aF prog 163=true/\aF prog 164=true/\aF prog 165=true/\aF prog 166=true/\aF prog 168=true/\aF prog 169=true/\aF prog 170=true/\aF prog 171=true/\aF prog 172=true/\aF prog 173=true/\aF prog 174=true/\aF prog 175=true/\aF prog 176=true/\aF prog 177=true/\aF prog 178=true/\aF prog 179=true/\aF prog 180=true/\aF prog 181=true/\aF prog 182=true/\aF prog 183=true/\aF prog 185=true/\aF prog 186=true/\aF prog 187=true/\aF prog 188=true/\aF prog 190=true/\aF prog 191=true/\aF prog 192=true/\aF prog 194=true/\aF prog 195=true/\aF prog 196=true/\aF prog 197=true/\aF prog 198=true:=by and_intros<;>kernel_rfl
theorem ayX:aF prog 199=true/\aF prog 200=true/\aF prog 201=true/\aF prog 202=true/\aF prog 203=true/\aF prog 204=true/\aF prog 205=true/\aF prog 206=true/\aF prog 207=true/\aF prog 208=true/\aF prog 209=true/\aF prog 210=true/\aF prog 211=true/\aF prog 212=true/\aF prog 213=true/\aF prog 214=true/\aF prog 215=true/\aF prog 216=true/\aF prog 217=true/\aF prog 218=true/\aF prog 219=true/\aF prog 220=true/\aF prog 221=true/\aF prog 222=true/\aF prog 223=true/\aF prog 225=true/\aF prog 230=true/\aF prog 232=true/\aF prog 233=true/\aF prog 234=true/\aF prog 235=true/\aF prog 236=true/\aF prog 237=true/\aF prog 238=true/\aF prog 243=true/\aF prog 249=true/\aF prog 251=true/\aF prog 255=true/\aF prog 256=true/\aF prog 257=true:=by and_intros<;>kernel_rfl
theorem aAo:aF prog 258=true/\aF prog 270=true/\aF prog 271=true/\aF prog 272=true/\aF prog 276=true/\aF prog 277=true:=by and_intros<;>kernel_rfl
attribute [go_sem] aA8 ayR axT DF kk3 zv3 so3 so4 ayQ alX aqE axV tyJ0 aBl aBb aAL ayZ aAK aAj ayI azJ aAR aAk aAs ayX aAo
end Go.Proofs.YthephioccidfgaaGreatDoor.Ty
end
section
namespace Go.Aw.D
open Go.Aw
def aQ(n:Int):List AV:=[.v (.int .i64 n)]
def fY(b:Bool):List AV:=[.v (.bool b)]
def dZ(s:ByteArray):List AV:=[.v (.string s)]
def Ko(x:Int):(aQ x).length=1:=rfl
def apS(x:Int):(aQ x).getD 0 .any=.v (.int .i64 x):=rfl
def QJ(x:Bool):(fY x).length=1:=rfl
def aeY(x:Bool):(fY x).getD 0 .any=.v (.bool x):=rfl
def Xu(x:ByteArray):(dZ x).length=1:=rfl
def amR(x:ByteArray):(dZ x).getD 0 .any=.v (.string x):=rfl
structure Point where
 t:Int
 a:Int
 deriving DecidableEq
def cF(x:Point):List AV:=[.v (.int .i64 x.t),.v (.int .i64 x.a)]
def jJ(x:Point):(cF x).length=2:=rfl
def WH(x:Point):(cF x).getD 0 .any=.v (.int .i64 x.t):=rfl
def WD(x:Point):(cF x).getD 1 .any=.v (.int .i64 x.a):=rfl
def EC(x:Point):(cF x).take 2=cF x:=rfl
structure Arc where
 src:Int
 dst:Int
 profile:Int
 miles:Int
 travel:List Point
 slow:List Point
 deriving DecidableEq
def fK(x:Arc):List AV:=[.v (.int .i64 x.src),.v (.int .i64 x.dst),.v (.int .i64 x.profile),.v (.int .i64 x.miles),.sl (x.travel.map cF),.sl (x.slow.map cF)]
def pJ(x:Arc):(fK x).length=6:=rfl
def arD(x:Arc):(fK x).getD 0 .any=.v (.int .i64 x.src):=rfl
def aqH(x:Arc):(fK x).getD 1 .any=.v (.int .i64 x.dst):=rfl
def ahG(x:Arc):(fK x).getD 2 .any=.v (.int .i64 x.profile):=rfl
def arA(x:Arc):(fK x).getD 3 .any=.v (.int .i64 x.miles):=rfl
def aoL(x:Arc):(fK x).getD 4 .any=.sl (x.travel.map cF):=rfl
def aiZ(x:Arc):(fK x).getD 5 .any=.sl (x.slow.map cF):=rfl
def Yb(x:Arc):(fK x).take 6=fK x:=rfl
structure Network where
 places:List ByteArray
 arcs:List Arc
 deriving DecidableEq
def bA(x:Network):List AV:=[.sl (x.places.map dZ),.sl (x.arcs.map fK)]
def JZ(x:Network):(bA x).length=2:=rfl
def PP(x:Network):(bA x).getD 0 .any=.sl (x.places.map dZ):=rfl
def PF(x:Network):(bA x).getD 1 .any=.sl (x.arcs.map fK):=rfl
def Jw(x:Network):(bA x).take 2=bA x:=rfl
structure VType where
 name:ByteArray
 count:Int
 src:Int
 dst:Int
 cap:List Int
 skills:Int
 profile:Int
 start:Int
 close:Int
 drive:Int
 rest:Int
 fixed:Int
 perMile:Int
 perTick:Int
 deriving DecidableEq
def bB(x:VType):List AV:=[.v (.string x.name),.v (.int .i64 x.count),.v (.int .i64 x.src),.v (.int .i64 x.dst),.sl (x.cap.map aQ),.v (.int .i64 x.skills),.v (.int .i64 x.profile),.v (.int .i64 x.start),.v (.int .i64 x.close),.v (.int .i64 x.drive),.v (.int .i64 x.rest),.v (.int .i64 x.fixed),.v (.int .i64 x.perMile),.v (.int .i64 x.perTick)]
def lY(x:VType):(bB x).length=14:=rfl
def V4(x:VType):(bB x).getD 0 .any=.v (.string x.name):=rfl
def Ww(x:VType):(bB x).getD 1 .any=.v (.int .i64 x.count):=rfl
def WJ(x:VType):(bB x).getD 2 .any=.v (.int .i64 x.src):=rfl
def Xy(x:VType):(bB x).getD 3 .any=.v (.int .i64 x.dst):=rfl
def W6(x:VType):(bB x).getD 4 .any=.sl (x.cap.map aQ):=rfl
def VV(x:VType):(bB x).getD 5 .any=.v (.int .i64 x.skills):=rfl
def VF(x:VType):(bB x).getD 6 .any=.v (.int .i64 x.profile):=rfl
def VC(x:VType):(bB x).getD 7 .any=.v (.int .i64 x.start):=rfl
def XE(x:VType):(bB x).getD 8 .any=.v (.int .i64 x.close):=rfl
def VQ(x:VType):(bB x).getD 9 .any=.v (.int .i64 x.drive):=rfl
def Tu(x:VType):(bB x).getD 10 .any=.v (.int .i64 x.rest):=rfl
def UP(x:VType):(bB x).getD 11 .any=.v (.int .i64 x.fixed):=rfl
def SD(x:VType):(bB x).getD 12 .any=.v (.int .i64 x.perMile):=rfl
def TV(x:VType):(bB x).getD 13 .any=.v (.int .i64 x.perTick):=rfl
def OB(x:VType):(bB x).take 14=bB x:=rfl
structure Stop where
 place:Int
 start:Int
 close:Int
 service:Int
 deriving DecidableEq
def eQ(x:Stop):List AV:=[.v (.int .i64 x.place),.v (.int .i64 x.start),.v (.int .i64 x.close),.v (.int .i64 x.service)]
def nP(x:Stop):(eQ x).length=4:=rfl
def aeK(x:Stop):(eQ x).getD 0 .any=.v (.int .i64 x.place):=rfl
def acH(x:Stop):(eQ x).getD 1 .any=.v (.int .i64 x.start):=rfl
def abC(x:Stop):(eQ x).getD 2 .any=.v (.int .i64 x.close):=rfl
def adT(x:Stop):(eQ x).getD 3 .any=.v (.int .i64 x.service):=rfl
def T4(x:Stop):(eQ x).take 4=eQ x:=rfl
structure Order where
 name:ByteArray
 load:List Int
 pick:Stop
 drop:Stop
 skills:Int
 penalty:Int
 split:Int
 last:Int
 now:Int
 off:Bool
 deriving DecidableEq
def aY(x:Order):List AV:=[.v (.string x.name),.sl (x.load.map aQ),.v (.int .i64 x.pick.place),.v (.int .i64 x.pick.start),.v (.int .i64 x.pick.close),.v (.int .i64 x.pick.service),.v (.int .i64 x.drop.place),.v (.int .i64 x.drop.start),.v (.int .i64 x.drop.close),.v (.int .i64 x.drop.service),.v (.int .i64 x.skills),.v (.int .i64 x.penalty),.v (.int .i64 x.split),.v (.int .i64 x.last),.v (.int .i64 x.now),.v (.bool x.off)]
def lX(x:Order):(aY x).length=16:=rfl
def XF(x:Order):(aY x).getD 0 .any=.v (.string x.name):=rfl
def XU(x:Order):(aY x).getD 1 .any=.sl (x.load.map aQ):=rfl
def WL(x:Order):(aY x).getD 2 .any=.v (.int .i64 x.pick.place):=rfl
def U9(x:Order):(aY x).getD 3 .any=.v (.int .i64 x.pick.start):=rfl
def Wc(x:Order):(aY x).getD 4 .any=.v (.int .i64 x.pick.close):=rfl
def V9(x:Order):(aY x).getD 5 .any=.v (.int .i64 x.pick.service):=rfl
def Vg(x:Order):(aY x).getD 6 .any=.v (.int .i64 x.drop.place):=rfl
def Xh(x:Order):(aY x).getD 7 .any=.v (.int .i64 x.drop.start):=rfl
def Xn(x:Order):(aY x).getD 8 .any=.v (.int .i64 x.drop.close):=rfl
def Vo(x:Order):(aY x).getD 9 .any=.v (.int .i64 x.drop.service):=rfl
def UD(x:Order):(aY x).getD 10 .any=.v (.int .i64 x.skills):=rfl
def Uf(x:Order):(aY x).getD 11 .any=.v (.int .i64 x.penalty):=rfl
def TT(x:Order):(aY x).getD 12 .any=.v (.int .i64 x.split):=rfl
def RZ(x:Order):(aY x).getD 13 .any=.v (.int .i64 x.last):=rfl
def UM(x:Order):(aY x).getD 14 .any=.v (.int .i64 x.now):=rfl
def Sk(x:Order):(aY x).getD 15 .any=.v (.bool x.off):=rfl
def P0(x:Order):(aY x).take 16=aY x:=rfl
def Lx(x:Order):((aY x).drop 2).take 4=eQ x.pick:=rfl
def Lr(x:Order):((aY x).drop 6).take 4=eQ x.drop:=rfl
structure Pair where
 a:Int
 b:Int
 deriving DecidableEq
def cZ(x:Pair):List AV:=[.v (.int .i64 x.a),.v (.int .i64 x.b)]
def nU(x:Pair):(cZ x).length=2:=rfl
def acW(x:Pair):(cZ x).getD 0 .any=.v (.int .i64 x.a):=rfl
def acI(x:Pair):(cZ x).getD 1 .any=.v (.int .i64 x.b):=rfl
def Q2(x:Pair):(cZ x).take 2=cZ x:=rfl
structure Instance where
 net:Network
 types:List VType
 orders:List Order
 apart:List Pair
 before:List Pair
 deriving DecidableEq
def aE(x:Instance):List AV:=[.sl (x.net.places.map dZ),.sl (x.net.arcs.map fK),.sl (x.types.map bB),.sl (x.orders.map aY),.sl (x.apart.map cZ),.sl (x.before.map cZ)]
def Is(x:Instance):(aE x).length=6:=rfl
def Lz(x:Instance):(aE x).getD 0 .any=.sl (x.net.places.map dZ):=rfl
def Lu(x:Instance):(aE x).getD 1 .any=.sl (x.net.arcs.map fK):=rfl
def Ly(x:Instance):(aE x).getD 2 .any=.sl (x.types.map bB):=rfl
def LF(x:Instance):(aE x).getD 3 .any=.sl (x.orders.map aY):=rfl
def Lv(x:Instance):(aE x).getD 4 .any=.sl (x.apart.map cZ):=rfl
def LV(x:Instance):(aE x).getD 5 .any=.sl (x.before.map cZ):=rfl
def IE(x:Instance):(aE x).take 6=aE x:=rfl
def Iw(x:Instance):(aE x).take 2=bA x.net:=rfl
structure Visit where
 order:Int
 drop:Bool
 deriving DecidableEq
def aL(x:Visit):List AV:=[.v (.int .i64 x.order),.v (.bool x.drop)]
def dJ(x:Visit):(aL x).length=2:=rfl
def U7(x:Visit):(aL x).getD 0 .any=.v (.int .i64 x.order):=rfl
def Wl(x:Visit):(aL x).getD 1 .any=.v (.bool x.drop):=rfl
def O1(x:Visit):(aL x).take 2=aL x:=rfl
structure Route where
 type:Int
 start:Int
 rests:List Bool
 visits:List Visit
 deriving DecidableEq
def bM(x:Route):List AV:=[.v (.int .i64 x.type),.v (.int .i64 x.start),.sl (x.rests.map fY),.sl (x.visits.map aL)]
def kS(x:Route):(bM x).length=4:=rfl
def Xg(x:Route):(bM x).getD 0 .any=.v (.int .i64 x.type):=rfl
def V8(x:Route):(bM x).getD 1 .any=.v (.int .i64 x.start):=rfl
def Vm(x:Route):(bM x).getD 2 .any=.sl (x.rests.map fY):=rfl
def VU(x:Route):(bM x).getD 3 .any=.sl (x.visits.map aL):=rfl
def OH(x:Route):(bM x).take 4=bM x:=rfl
structure Plan where
 routes:List Route
 unserved:List Int
 deriving DecidableEq
def gK(x:Plan):List AV:=[.sl (x.routes.map bM),.sl (x.unserved.map aQ)]
def UN(x:Plan):(gK x).length=2:=rfl
def aeT(x:Plan):(gK x).getD 0 .any=.sl (x.routes.map bM):=rfl
def aeM(x:Plan):(gK x).getD 1 .any=.sl (x.unserved.map aQ):=rfl
def Uw(x:Plan):(gK x).take 2=gK x:=rfl
structure Fault where
 err:Int
 at_:ByteArray
 deriving DecidableEq
def hJ(x:Fault):List AV:=[.v (.int .i64 x.err),.v (.string x.at_)]
def OF(x:Fault):(hJ x).length=2:=rfl
def Xd(x:Fault):(hJ x).getD 0 .any=.v (.int .i64 x.err):=rfl
def U2(x:Fault):(hJ x).getD 1 .any=.v (.string x.at_):=rfl
def OQ(x:Fault):(hJ x).take 2=hJ x:=rfl
structure Decision where
 kind:Int
 a:Int
 b:Int
 n:Int
 deriving DecidableEq
def aP(x:Decision):List AV:=[.v (.int .i64 x.kind),.v (.int .i64 x.a),.v (.int .i64 x.b),.v (.int .i64 x.n)]
def kJ(x:Decision):(aP x).length=4:=rfl
def LU(x:Decision):(aP x).getD 0 .any=.v (.int .i64 x.kind):=rfl
def LX(x:Decision):(aP x).getD 1 .any=.v (.int .i64 x.a):=rfl
def LL(x:Decision):(aP x).getD 2 .any=.v (.int .i64 x.b):=rfl
def LW(x:Decision):(aP x).getD 3 .any=.v (.int .i64 x.n):=rfl
def IF(x:Decision):(aP x).take 4=aP x:=rfl
structure Column where
 type:Int
 set:Int
 price:Int
 route:Route
 deriving DecidableEq
def bO(x:Column):List AV:=[.v (.int .i64 x.type),.v (.int .i64 x.set),.v (.int .i64 x.price),.v (.int .i64 x.route.type),.v (.int .i64 x.route.start),.sl (x.route.rests.map fY),.sl (x.route.visits.map aL)]
def gF(x:Column):(bO x).length=7:=rfl
def Si(x:Column):(bO x).getD 0 .any=.v (.int .i64 x.type):=rfl
def RY(x:Column):(bO x).getD 1 .any=.v (.int .i64 x.set):=rfl
def Ru(x:Column):(bO x).getD 2 .any=.v (.int .i64 x.price):=rfl
def SB(x:Column):(bO x).getD 3 .any=.v (.int .i64 x.route.type):=rfl
def Sx(x:Column):(bO x).getD 4 .any=.v (.int .i64 x.route.start):=rfl
def QP(x:Column):(bO x).getD 5 .any=.sl (x.route.rests.map fY):=rfl
def TE(x:Column):(bO x).getD 6 .any=.sl (x.route.visits.map aL):=rfl
def Lo(x:Column):(bO x).take 7=bO x:=rfl
def Ix(x:Column):((bO x).drop 3).take 4=bM x.route:=rfl
structure Score where
 cost:Int
 moved:Int
 other:Int
 work:Int
 deriving DecidableEq
def bE(x:Score):List AV:=[.v (.int .i64 x.cost),.v (.int .i64 x.moved),.v (.int .i64 x.other),.v (.int .i64 x.work)]
def cE(x:Score):(bE x).length=4:=rfl
def A1(x:Score):(bE x).getD 0 .any=.v (.int .i64 x.cost):=rfl
def AJ(x:Score):(bE x).getD 1 .any=.v (.int .i64 x.moved):=rfl
def AO(x:Score):(bE x).getD 2 .any=.v (.int .i64 x.other):=rfl
def AI(x:Score):(bE x).getD 3 .any=.v (.int .i64 x.work):=rfl
def vA(x:Score):(bE x).take 4=bE x:=rfl
structure Cut where
 kind:Int
 set:Int
 n:Int
 deriving DecidableEq
def fZ(x:Cut):List AV:=[.v (.int .i64 x.kind),.v (.int .i64 x.set),.v (.int .i64 x.n)]
def wR(x:Cut):(fZ x).length=3:=rfl
def aqJ(x:Cut):(fZ x).getD 0 .any=.v (.int .i64 x.kind):=rfl
def anP(x:Cut):(fZ x).getD 1 .any=.v (.int .i64 x.set):=rfl
def alG(x:Cut):(fZ x).getD 2 .any=.v (.int .i64 x.n):=rfl
def XS(x:Cut):(fZ x).take 3=fZ x:=rfl
structure TimeT where
 arrive:Int
 start:Int
 depart:Int
 rest:Bool
 deriving DecidableEq
def TH(x:TimeT):List AV:=[.v (.int .i64 x.arrive),.v (.int .i64 x.start),.v (.int .i64 x.depart),.v (.bool x.rest)]
structure PRow where
 coef:List Int
 kind:Int
 right:Int
 deriving DecidableEq
def mE(x:PRow):List AV:=[.sl (x.coef.map aQ),.v (.int .i64 x.kind),.v (.int .i64 x.right)]
def xW(x:PRow):(mE x).length=3:=rfl
def abQ(x:PRow):(mE x).getD 0 .any=.sl (x.coef.map aQ):=rfl
def abM(x:PRow):(mE x).getD 1 .any=.v (.int .i64 x.kind):=rfl
def acD(x:PRow):(mE x).getD 2 .any=.v (.int .i64 x.right):=rfl
def To(x:PRow):(mE x).take 3=mE x:=rfl
structure PLin where
 cost:List Int
 rows:List PRow
 deriving DecidableEq
def kA(x:PLin):List AV:=[.sl (x.cost.map aQ),.sl (x.rows.map mE)]
def Cw(x:PLin):(kA x).length=2:=rfl
def afO(x:PLin):(kA x).getD 0 .any=.sl (x.cost.map aQ):=rfl
def abX(x:PLin):(kA x).getD 1 .any=.sl (x.rows.map mE):=rfl
def Ra(x:PLin):(kA x).take 2=kA x:=rfl
structure TNode where
 leaf:Bool
 kind:Int
 cuts:List Cut
 dual:List ByteArray
 choice:Decision
 yes:Int
 no:Int
 deriving DecidableEq
def bR(x:TNode):List AV:=[.v (.bool x.leaf),.v (.int .i64 x.kind),.sl (x.cuts.map fZ),.sl (x.dual.map dZ),.v (.int .i64 x.choice.kind),.v (.int .i64 x.choice.a),.v (.int .i64 x.choice.b),.v (.int .i64 x.choice.n),.v (.int .i64 x.yes),.v (.int .i64 x.no)]
def jG(x:TNode):(bR x).length=10:=rfl
def Wn(x:TNode):(bR x).getD 0 .any=.v (.bool x.leaf):=rfl
def WA(x:TNode):(bR x).getD 1 .any=.v (.int .i64 x.kind):=rfl
def VG(x:TNode):(bR x).getD 2 .any=.sl (x.cuts.map fZ):=rfl
def Va(x:TNode):(bR x).getD 3 .any=.sl (x.dual.map dZ):=rfl
def X1(x:TNode):(bR x).getD 4 .any=.v (.int .i64 x.choice.kind):=rfl
def Xv(x:TNode):(bR x).getD 5 .any=.v (.int .i64 x.choice.a):=rfl
def U4(x:TNode):(bR x).getD 6 .any=.v (.int .i64 x.choice.b):=rfl
def Ya(x:TNode):(bR x).getD 7 .any=.v (.int .i64 x.choice.n):=rfl
def VR(x:TNode):(bR x).getD 8 .any=.v (.int .i64 x.yes):=rfl
def Wg(x:TNode):(bR x).getD 9 .any=.v (.int .i64 x.no):=rfl
def Pn(x:TNode):(bR x).take 10=bR x:=rfl
def It(x:TNode):((bR x).drop 4).take 4=aP x.choice:=rfl
structure Proof where
 noPlan:Bool
 plan:Plan
 nodes:List TNode
 deriving DecidableEq
def dY(x:Proof):List AV:=[.v (.bool x.noPlan),.sl (x.plan.routes.map bM),.sl (x.plan.unserved.map aQ),.sl (x.nodes.map bR)]
def EM(x:Proof):(dY x).length=4:=rfl
def V0(x:Proof):(dY x).getD 0 .any=.v (.bool x.noPlan):=rfl
def UX(x:Proof):(dY x).getD 1 .any=.sl (x.plan.routes.map bM):=rfl
def W8(x:Proof):(dY x).getD 2 .any=.sl (x.plan.unserved.map aQ):=rfl
def WV(x:Proof):(dY x).getD 3 .any=.sl (x.nodes.map bR):=rfl
def OZ(x:Proof):(dY x).take 4=dY x:=rfl
def Ln(x:Proof):((dY x).drop 1).take 2=gK x.plan:=rfl
structure Ask3 where
 x:Instance
 cuts:List Cut
 d:List Decision
 dual:List ByteArray
 deriving DecidableEq
structure Sheet where
 rest:Bool
 depart:Int
 times:List TimeT
 stop:Int
 miles:Int
 deriving DecidableEq
def cH(x:Sheet):List AV:=[.v (.bool x.rest),.v (.int .i64 x.depart),.sl (x.times.map TH),.v (.int .i64 x.stop),.v (.int .i64 x.miles)]
def fW(x:Sheet):(cH x).length=5:=rfl
def XB(x:Sheet):(cH x).getD 0 .any=.v (.bool x.rest):=rfl
def XH(x:Sheet):(cH x).getD 1 .any=.v (.int .i64 x.depart):=rfl
def Yc(x:Sheet):(cH x).getD 2 .any=.sl (x.times.map TH):=rfl
def D5(x:Sheet):(cH x).getD 3 .any=.v (.int .i64 x.stop):=rfl
def DS(x:Sheet):(cH x).getD 4 .any=.v (.int .i64 x.miles):=rfl
def AK(x:Sheet):(cH x).take 5=cH x:=rfl
attribute [go_sem] Ko apS QJ aeY Xu amR jJ WH WD EC pJ arD aqH ahG arA aoL aiZ Yb JZ PP PF Jw lY V4 Ww WJ Xy W6 VV VF VC XE VQ Tu UP SD TV OB nP aeK acH abC adT T4 lX XF XU WL U9 Wc V9 Vg Xh Xn Vo UD Uf TT RZ UM Sk P0 Lx Lr nU acW acI Q2 Is Lz Lu Ly LF Lv LV IE Iw dJ U7 Wl O1 kS Xg V8 Vm VU OH UN aeT aeM Uw OF Xd U2 OQ kJ LU LX LL LW IF gF Si RY Ru SB Sx QP TE Lo Ix cE A1 AJ AO AI vA wR aqJ anP alG XS xW abQ abM acD To Cw afO abX Ra jG Wn WA VG Va X1 Xv U4 Ya VR Wg Pn It EM V0 UX W8 WV OZ Ln fW XB XH Yc D5 DS AK
def aC{α:Type}{f:α->List AV}{l:List α}{k:Nat}{x:α}(h:l[k]?=some x):(l.map f).getD k []=f x:=by simp[List.getD,h]
def atH{α:Type}(f:α->List AV)(l:List α):(l.map f).length=l.length:=List.length_map f
def abA(n:Nat):((n:Int)).toNat=n:=Int.toNat_natCast n
attribute [go_sem] atH abA
theorem bD{n:Int}(h: -9223372036854775808<=n/\n<=9223372036854775807):IntKind.i64.wrap n=n:=IntWalk.i64_in n h
end Go.Aw.D
end
