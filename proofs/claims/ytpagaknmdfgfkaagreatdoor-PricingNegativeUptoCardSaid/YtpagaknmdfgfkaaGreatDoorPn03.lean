import Derived.StillTail
import Derived.Deep.Quiet
import Derived.Scope
import Derived.Test.YtpagaknmdfgfkaaGreatDoorChecked
import Derived.KernelRfl
import Derived.Test.YtpagaknmdfgfkaaGreatDoorPn02
set_option linter.unusedSimpArgs false
set_option linter.unusedVariables false
set_option linter.defProp false
set_option maxRecDepth 100000
section
namespace Go.Aw
open Go.RowKit
section
variable{P:Program}{n:Nat}{S0:Sg}{w0:World}{H0:aG}{mt:Nat->Bool}{ops:Array Oper}{K:Env->aG->Prop}{K':Act->World->Prop}{Q':Exit->Act->World->Prop}{ρ:Env}{H:aG}{a:Act}{w:World}{o:Oper}{S:Sg}
def yV{w':World}(h:(execOp a.eval o).run P w=.ok .skip w')(E:K' (a.put o.dst undef) w'):o.wp P a w K' Q':=by unfold Oper.wp;rw[h];exact E
theorem aiM{s:Sem Value}{v:Value}{w w':World}(h:s.run P w=.ok v w'):(do pure (Next.value (<-s)):Sem Next).run P w=.ok (.value v) w':=by simp[h]
def OW{t:TypeId}{l:Option Nat}(X:ldT P t=some l){v:Value}{vs:List Value}(I:v.cells=List.toArray vs)(F:vs.length=l.getD 1){g p:Nat}{w w':World}(E:l=none->∃i,P.info? t=some i/\i.size=1)
  (O:(storeCells ⟨g,p,none⟩ vs).run P w=.ok () w'):(Instr.storeAt t (.pointer (some ⟨g,p,none⟩)) v).run P w=.ok () w':=by
 have J:(sizeOf t).run P w=.ok vs.length w:=by
  cases l with
  | none=>obtain⟨i,T,h1⟩:=E rfl;simp_all[sizeOf,typeInfo]
  | some m=>grind[yG]
 simp_all[Instr.storeAt,Instr.sureAddr,storeVar]
theorem Bv(z:Array Value)(E:0<z.size):∀m,(madeCells z (m*z.size)).toList=(List.replicate m z.toList).flatten
 | 0=>by simp[madeCells]
 | m+1=>by
  have ih:=Bv z E m;rw[show List.replicate (m+1) z.toList=List.replicate m z.toList++[z.toList]from List.replicate_succ',List.flatten_append,<-ih];simp only[madeCells,Array.toList_map,Array.toList_range,Nat.add_mul,Nat.one_mul,List.flatten_cons,List.flatten_nil,List.append_nil];rw[List.range_add,List.map_append]
  congr 1
  apply List.ext_getElem
  all_goals simp_all[Nat.mod_eq_of_lt]
def ID:∀(cs:List AV) (l:List Value) (j:Nat) {x:AV},bO S w cs l->(∀u,l[j]?=some u->rep S w x u)->bO S w (cs.set j x) l
 | [],_,_,_,h,_=>h
 | y::r,l,0,x,h,hx=>by grind[bO]
 | y::r,l,j+1,x,h,hx=>by simp only[bO,List.set_cons_succ]at h |-;obtain⟨u,t,rfl,h1,F⟩:=h;exact⟨u,t,rfl,h1,ID r t j F fun u E=>hx u (by simpa using E)⟩
def tC:∀(nl:List (Nat×TypeId×Nat)) (z:List AV) (S:Sg) (H:aG) (vs:List Value) {K:List AV->aG->Prop},(∀x∈nl,vs[x.1]?=some (.slice none 0 0)/\0<x.2.2)->St S w H->bO S w z vs->lQ nl z H K ->
  ∃F S' H',K F H'/\St S' w H'/\Grow S w S' w/\gY S.N H H'/\bO S' w F vs/\F.length=z.length
 | [],z,S,H,vs,K,_,hS,hr,h=>⟨z,S,H,h,hS,Grow.refl S w,gY.refl _ _,hr,rfl⟩
 | x::r,z,S,H,vs,K,hn,hS,hr,h=>by obtain⟨h0,E⟩:=hn x (by simp);have q:=hS.nilRow x.2.1 E;have I:=ID z vs x.1 (x:=.os S.N) (eU q.2.le (q.2.kept hS) _ _ hr) (fun u hu=>by simp_all[rep,Sg.addRow]);obtain⟨F,S',H',h1,Y,O,T,J,X⟩:=tC r _ _ _ vs (fun y Z=>hn y (by simp[Z])) q.1 I (h S.N hS.fresh);exact⟨F,S',H',h1,Y,q.2.trans O,(qZ hS).trans T q.2.le.N,J,by simpa using X⟩
def Dr{P:Program}{t:TypeId}{nl:List (Nat×TypeId×Nat)}(h:uJ P t=some nl){i:TypeInfo}{v:Value}(J:P.info? t=some i)(F:i.zero=some v):∀x∈nl,v.cells.toList[x.1]?=some (.slice none 0 0)/\0<x.2.2:=by
 unfold uJ at h;rw[J]at h;simp only[F]at h;split at h
 ·rename_i E;injection h with h;subst h;intro x I;have:=List.all_eq_true.1 E x I;simp only[Bool.and_eq_true,decide_eq_true_eq]at this
  grind[aeK]
 grind
def Sl{t:TypeId}{z:List AV}(hS:St S w H)(hF:FR S w ρ a)(hG:Grow S0 w0 S w)(hN:gY S0.N H0 H)(hd:a.defers=[])(hn:a.tmps.size=n)(ho:o.op=.alloc t)(hz:eD P t=some z)
  (hw:Region.wanted o (yielded ops a.tmps)=true) (hK:∀I H' a' w',K I H'->Rel n S0 w0 H0 I H' a' w'->K' a' w') {nl:List (Nat×TypeId×Nat)} (J:uJ P t=some nl)
  (h:lQ nl z H fun z H=>rO H ⟨t,z.length,[z]⟩ fun k H'=>K (upd ρ o.dst (.op k 0 0)) H'):Bc P ops o a w K' Q':=by
 obtain⟨i,v,hi,Y,rfl,ab,aa,h1⟩:=pP hz;have Z:(Instr.alloc t true (.tuple #[])).run P w=.ok (.pointer (some ⟨w.heap.size,0,none⟩)) (w.alloc (.cells v.cells t)):=by simp_all[Instr.alloc,zeroValue,typeInfo,newVar,newRow]
 have T:∀x∈nl,v.cells.toList[x.1]?=some (.slice none 0 0)/\0<x.2.2:=Dr J hi Y;obtain⟨z',S',H',q0,E,F,X,O,ac⟩:=tC nl _ S H v.cells.toList T hS (oA _) h;obtain⟨S2,q1,q2,q3⟩:=FB (t:=t) (cs:=z') (l:=v.cells.toList) E (by grind) O h1;refine gV hw (fQ (v:=.pointer (some ⟨w.heap.size,0,none⟩)) (w':=w.alloc (.cells v.cells t)) (by simp_all[execOp]) (hK _ _ _ _ (q0 S'.N E.fresh) (Rel.step E (hF.keep F.le (F.kept hS)) (hG.trans F) (hN.trans X hG.le.N) hd hn (by omega) (by omega) (qZ E) (by omega))))
def G8{t:TypeId}{x y:Operand}{x':AV}{cs:List AV}{l:List Value}(Y:St S w H)(hF:FR S w ρ a)(hG:Grow S0 w0 S w)(hN:gY S0.N H0 H)(hd:a.defers=[])(hn:a.tmps.size=n)(ho:o.op=.store t x y)
  (hw:Region.wanted o (yielded ops a.tmps)=true) (hK:∀I H' a' w',K I H'->Rel n S0 w0 H0 I H' a' w'->K' a' w') (ex:rep S w x' (a.eval x)) (e1:(a.eval y).cells=l.toArray) (e2:bO S w cs l) (e3:∀u∈l,u.oneCell'=true)
  (T:Br P o t x' cs ρ H K):Bc P ops o a w K' Q':=by
 unfold Br at T;split at T
 ·rename_i k i f;split at T
  ·rename_i r ld Z X;obtain⟨⟨c1,c2,c3,c4⟩,h5⟩:=T;simp only[rep]at ex;obtain⟨_,g,m,c,F,ep⟩:=ex;obtain⟨g',n',c',w',E,J,q1,q2⟩:=Y.store Z c1 c3 F e2 e3;rw[F]at E;injection E with O i2 i3;injection O with O;injection O with O;subst O;rw[<-(Y.rows k r Z).sz]at ep;have aa:=OW (P:=P) X e1 (by grind[jB]) (by omega) (J P);refine gV hw (yV (w':=w') ?_ (hK _ _ _ _ h5 (Rel.step Y hF hG hN hd hn q1 q2 ?_ (by grind[rep]))))
   ·simp_all[execOp]
   ·intro j _ h0
    grind[aJ]
  grind
 grind
def YI:∀(x:List AV) (l:List Value) (j:Nat) (v:Value),bO S w x l->x[j]?=some (.v v)->l[j]?=some v
 | [],_,_,_,_,h=>by grind
 | a::r,l,0,v,h,hx=>by grind[bO,rep]
 | a::r,l,j+1,v,h,hx=>by simp only[bO]at h;obtain⟨u,t,rfl,h1,E⟩:=h;simpa using YI r t j v E (by simpa using hx)
def Ew{t:TypeId}{x y:Operand}{x':AV}{cs:List AV}{l:List Value}(O:St S w H)(hF:FR S w ρ a)(X:Grow S0 w0 S w)(hN:gY S0.N H0 H)(hd:a.defers=[])(hn:a.tmps.size=n)(ho:o.op=.store t x y)
  (hw:Region.wanted o (yielded ops a.tmps)=true) (hK:∀I H' a' w',K I H'->Rel n S0 w0 H0 I H' a' w'->K' a' w') (ex:rep S w x' (a.eval x)) (e1:(a.eval y).cells=l.toArray) (e2:bO S w cs l) (e3:∀u∈l,u.oneCell'=true)
  (J:xB P o t x' cs ρ H K):Bc P ops o a w K' Q':=by
 rcases J with J|⟨_,nl,F,J⟩
 ·exact G8 O hF X hN hd hn ho hw hK ex e1 e2 e3 J
 ·obtain⟨z',S',H',q0,Z,E,T,Y,aa⟩:=tC nl _ S H l (fun x hx=>⟨YI _ _ _ _ e2 (F x hx).1,(F x hx).2⟩) O e2 J;exact G8 Z (hF.keep E.le (E.kept O)) (X.trans E) (hN.trans T X.le.N) hd hn ho hw hK (nV E.le (E.kept O) _ _ ex) e1 Y e3 q0
def Nv{w:World}:∀(nl:List (Nat×TypeId×Nat)) (z:List AV) (vs:List Value),(∀x∈nl,vs[x.1]?=some (.slice none 0 0))->bO S w z vs->bO S w (Lx nl z) vs
 | [],z,vs,_,h=>h
 | x::r,z,vs,hn,h=>Nv r _ vs (fun y F=>hn y (by grind)) (ID z vs x.1 h fun u E=>by grind[rep])
def Hg{o:Oper}{w1:World}{t:TypeId}{E:Array (Nat×Operand)}(hF:FR S w1 ρ a)(hb:∀x∈o.op.operands,opB a.tmps.size x=true)(ho:o.op=.build t E)
  (h:Ct P o t E.toList ρ H K):∃z,K (upd ρ o.dst z) H/\∃v,rep S w1 z v/\∀w,(execOp a.eval o).run P w=.ok (.value v) w:=by
 unfold Ct at h;obtain⟨ps,h,J⟩:=qV hF E.toList (fun p hp=>hb p.2 (by grind[Op.operands])) h;split at h
 ·rename_i z pl nl Y O I;obtain⟨e1,e2⟩:=J trivial;obtain⟨i,v,X,F,rfl,ab,aa,h1⟩:=pP Y;split at h
  ·rename_i cs T;obtain⟨A',f1,f2,f3⟩:=xQ (S:=S) (w:=w1) X F h1 (Nv nl _ _ (fun x Z=>(Dr I X F x Z).1) (oA _)) O T e1 (fun j i c hj=>e2 j i c hj);refine⟨_,h,.agg A',?_,fun w=>?_⟩
   ·grind[rep]
   simp_all[execOp,run_build]
  grind
 grind
def OO{t:TypeId}{E:Array (Nat×Operand)}(O:St S w H)(I:FR S w ρ a)(Z:Grow S0 w0 S w)(Y:gY S0.N H0 H)(hd:a.defers=[])(hn:a.tmps.size=n)(ho:o.op=.build t E)(hb:∀x∈o.op.operands,opB a.tmps.size x=true)
  (T:Region.wanted o (yielded ops a.tmps)=true) (hK:∀F H' J w',K F H'->Rel n S0 w0 H0 F H' J w'->K' J w') (h:Ct P o t E.toList ρ H K):Bc P ops o a w K' Q':=by
 obtain⟨z,X,v,hv,hq⟩:=Hg (S:=S) (w1:=w) I hb ho h;exact gV T (fQ (v:=v) (w':=w) (hq w) (hK _ _ _ _ X (Rel.step O I Z Y hd hn O (Grow.refl S w) (gY.refl _ _) hv)))
def Pu{t:TypeId}{E:Array (Nat×Operand)}(hS:St S w H)(hF:FR S w ρ a)(hG:Grow S0 w0 S w)(hN:gY S0.N H0 H)(hd:a.defers=[])(hn:a.tmps.size=n)(ho:o.op=.build t E)(hb:∀x∈o.op.operands,opB a.tmps.size x=true)
  (hw:Region.wanted o (yielded ops a.tmps)=true) (hK:∀I H' a' w',K I H'->Rel n S0 w0 H0 I H' a' w'->K' a' w') (h:E1 P o t E.toList ρ H K):Bc P ops o a w K' Q':=by
 unfold E1 at h;obtain⟨ps,h,Y⟩:=qV hF E.toList (fun p hp=>hb p.2 (by grind[Op.operands])) h;split at h
 ·rename_i z pl nl hz Z T;obtain⟨e1,e2⟩:=Y trivial;obtain⟨i,v,hi,J,rfl,ad,ac,h1⟩:=pP hz;obtain⟨z',S',H',q0,O,F,aa,X,ae⟩:=tC nl _ S H v.cells.toList (Dr T hi J) hS (oA _) h;split at q0
  ·rename_i cs ab;obtain⟨A',f1,f2,f3⟩:=xQ (S:=S') (w:=w) (z:=z') hi J h1 X Z ab e1 (fun j i c hj=>by obtain⟨u,l,g1,g2,g3,g4⟩:=e2 j i c hj;exact⟨u,l,g1,g2,eU F.le (F.kept hS) _ _ g3,g4⟩);refine gV hw (fQ (v:=.agg A') (w':=w) ?_ (hK _ _ _ _ q0 (Rel.step O (hF.keep F.le (F.kept hS)) (hG.trans F) (hN.trans aa hG.le.N) hd hn O (Grow.refl S' w) (gY.refl _ _) ?_)))
   ·simp_all[execOp,run_build]
   grind[rep]
  grind
 grind
def HA{t:TypeId}{x:Operand}{K2:AV->Prop}(I:St S w H)(Z:FR S w ρ a)(Y:Grow S0 w0 S w)(hN:gY S0.N H0 H)(hd:a.defers=[])(hn:a.tmps.size=n)(ho:o.op=.store t x (.const (.slice none 0 0)))(hb:∀x∈o.op.operands,opB a.tmps.size x=true)
   (hw:Region.wanted o (yielded ops a.tmps)=true) (hK:∀F H' a' w',K F H'->Rel n S0 w0 H0 F H' a' w'->K' a' w')
   (h : cA none (aev ρ x) fun y => match cN P t with
       | some (e,sz,_)=>rO H ⟨e,sz,[]⟩ fun k H=>xB P o t y [.os k] ρ H K
       | none=>False):Bc P ops o a w K' Q':=by
 obtain⟨x',h2,O⟩:=bB (S:=S) (w:=w) h;have X:opB a.tmps.size x=true:=hb x (by grind[Op.operands]);have ex:=O trivial _ (dN Z X);split at h2
 . rename_i e sz T he;obtain⟨i,z,hu,hi,aa,_,E,_⟩:=jW he;have q:=I.nilRow e E;have h3:=h2 S.N I.fresh;have J:=qZ I (r:=some ⟨e,sz,[]⟩);refine Ew q.1 (Z.keep q.2.le (q.2.kept I)) (Y.trans q.2) (hN.trans J Y.le.N) hd hn ho hw hK (nV q.2.le (q.2.kept I) _ _ ex) (l:=[.slice none 0 0]) (by rfl) ?_ (by simp[Value.oneCell']) h3;simp[bO,rep,Sg.addRow]
 grind
def O6{x:Operand}(J:St S w H)(hF:FR S w ρ a)(hG:Grow S0 w0 S w)(hN:gY S0.N H0 H)(hd:a.defers=[])(hn:a.tmps.size=n)(ho:o.op=.move x)(hb:∀x∈o.op.operands,opB a.tmps.size x=true)
  (hw:Region.wanted o (yielded ops a.tmps)=true) (hK:∀X H' a' w',K X H'->Rel n S0 w0 H0 X H' a' w'->K' a' w') (h:CI x ρ o.dst H K):Bc P ops o a w K' Q':=by
 unfold CI at h;split at h
 ·rename_i t;split at h
  ·rename_i j hj;split at h
   ·rename_i r hr;have ae:=hb (.tmp t) (by grind[Op.operands]);have hv:rep S w (ρ t) (a.eval (.tmp t)):=dN (x:=.tmp t) hF ae;rw[hj]at hv
    let Hf:aG:=fun k=>if k=j then H k else none
    let Hr:aG:=fun k=>if k=j then none else H k
    have T:∀k r',Hf k=some r'->k=j/\H k=some r':=fun k r' E=>by grind
    have I:∀k r',Hr k=some r'->k≠j/\H k=some r':=fun k r' E=>by grind
    have aa:St S w Hf:=J.drop fun k r' E=>(T k r' E).2
    have ab:rep (S.froze Hf) w (.sl r.es) (a.eval (.tmp t)):=Conv.rep aa (Conv.row j r r.es (by grind) (ConvE.refl _)) hv;have Y:St (S.froze Hf) w Hr:=by
     refine⟨?_,?_,fun k r' E=>(J.rows k r' (I k r' E).2).keep (S.le_froze Hf) (iL.refl S w) (fun _ _=>rfl),?_,fun k k' r1 O E af ad g F ag=>J.disj k k' r1 O (I k r1 E).2 (I k' O af).2 ad g F ag,J.tabs.keep (S.le_froze Hf) (iL.refl S w)⟩
     ·rintro g (F|F)
      ·exact .inl (J.ro_fz g F)
      ·exact .inr F
     ·rintro g (F|⟨k,r',E,F⟩)
      ·exact J.fz_lt g F
      ·exact(J.rows k r' (T k r' E).2).block_lt F
     ·rintro k r' E g F (h1|⟨i,O,hi,h2⟩)
      ·exact J.free k r' (I k r' E).2 g F h1
      ·exact J.disj k i r' O (I k r' E).2 (T i O hi).2 (fun e=>(I k r' E).1 (e.trans (T i O hi).1)) g F h2
    have F:Grow S w (S.froze Hf) w:=by
     refine⟨S.le_froze Hf,fun k E=>.inl E,rfl,rfl,rfl,Nat.le_refl _,fun _ _=>rfl,?_⟩;rintro g (F|⟨k,r',E,F⟩)
     ·grind
     ·exact .inr (J.free k r' (T k r' E).2 g F)
    have ac:FR (S.froze Hf) w (upd ρ (some t) (.sl r.es)) a:=fun t' Z=>by
     by_cases e:t'=t
     ·simp_all[upd,Act.eval]
     ·simp only[upd,if_neg e];exact(hF.keep (S.le_froze Hf) (iL.refl S w)) t' Z
    have E:=h Hr (by grind) (fun k E=>by grind);refine gV hw (fQ (v:=a.eval (.tmp t)) (w':=w) ?_ (hK _ _ _ _ E (Rel.step Y ac (hG.trans F) (hN.trans (fun k _ h0=>by grind) hG.le.N) hd hn Y (Grow.refl _ _) (gY.refl _ _) ab)));simp[execOp,ho]
   grind
  grind
 grind
def Jj{l:List Nat}:∀{xs E:List AV},Nl l H xs E->ConvL (fun k=>if k∈l then H k else none) xs E
 | [],[],_=>.nil
 | x::xs,y::E,h=>by
  simp only[Nl]at h;obtain⟨h1,F⟩:=h;refine .cons _ _ _ _ ?_ (Jj F);rcases h1 with rfl|⟨j,r,J,rfl,I,rfl⟩
  ·exact .refl _
  ·exact .row j r r.es (by grind) (ConvE.refl _)
 | [],_::_,h=>by grind[Nl]
 | _::_,[],h=>by grind[Nl]
def agY{x y:AV}{d:Option Nat}{l:List Nat}{a':Act}{w':World}(hR:Rel n S0 w0 H0 (upd ρ d x) H a' w')(hc:Conv (fun k=>if k∈l then H k else none) x y):Rel n S0 w0 H0 (upd ρ d y) (fun k=>if k∈l then none else H k) a' w':=by
 obtain⟨S,J,hF,hG,hN,hd,hn⟩:=hR
 let Hf:aG:=fun k=>if k∈l then H k else none
 let Hr:aG:=fun k=>if k∈l then none else H k
 have X:∀k r',Hf k=some r'->k∈l/\H k=some r':=fun k r' E=>by grind
 have I:∀k r',Hr k=some r'->¬k∈l/\H k=some r':=fun k r' E=>by grind
 have ad:St S w' Hf:=J.drop fun k r' E=>(X k r' E).2
 have ab:St (S.froze Hf) w' Hr:=by
  refine⟨?_,?_,fun k r' E=>(J.rows k r' (I k r' E).2).keep (S.le_froze Hf) (iL.refl S w') (fun _ _=>rfl),?_,fun k k' r1 O E aa Z g F ac=>J.disj k k' r1 O (I k r1 E).2 (I k' O aa).2 Z g F ac,J.tabs.keep (S.le_froze Hf) (iL.refl S w')⟩
  ·rintro g (F|F)
   ·exact .inl (J.ro_fz g F)
   ·exact .inr F
  ·rintro g (F|⟨k,r',E,F⟩)
   ·exact J.fz_lt g F
   ·exact(J.rows k r' (X k r' E).2).block_lt F
  ·rintro k r' E g F (h1|⟨i,O,hi,h2⟩)
   ·exact J.free k r' (I k r' E).2 g F h1
   ·exact J.disj k i r' O (I k r' E).2 (X i O hi).2 (fun e=>(I k r' E).1 (e▸(X i O hi).1)) g F h2
 have F:Grow S w' (S.froze Hf) w':=by
  refine⟨S.le_froze Hf,fun k E=>.inl E,rfl,rfl,rfl,Nat.le_refl _,fun _ _=>rfl,?_⟩;rintro g (F|⟨k,r',E,F⟩)
  ·grind
  ·exact .inr (J.free k r' (X k r' E).2 g F)
 have Y:FR (S.froze Hf) w' (upd ρ d y) a':=fun t' T=>by
  have h1:=hF t' T;cases d with
  | none=>exact hF.keep (S.le_froze Hf) (iL.refl S w') t' T
  | some d=>
   by_cases e:t'=d
   ·subst e;simp only[upd,if_true]at h1 |-
    grind[Conv.rep]
   ·simp only[upd,if_neg e]at h1 |-;exact nV (S.le_froze Hf) (iL.refl S w') _ _ h1
 exact⟨S.froze Hf,ab,Y,hG.trans F,hN.trans (fun k _ h0=>by grind) hG.le.N,hd,hn⟩
theorem Wv{G:Option Bool}{l:Option Nat}{y:AV}{E K2:AV->Prop}(F:∀z,E z->K2 z)(h:qR G H l y E):qR G H l y K2:=by unfold qR at h |-;cases y<;>grind
theorem ZL{G:Option Bool}{x:AV}{E K2:AV->Prop}(F:∀z,E z->K2 z)(h:cA G x E):cA G x K2:=by
 unfold cA at h |-
 grind
def Ho{G:Option Bool}{t:TypeId}{x:Operand}{E K2:AV->Prop}(F:∀z,E z->K2 z)(h:jG P G ρ H (.load t x) E):jG P G ρ H (.load t x) K2:=by simp only[jG]at h |-;cases I:ldT P t<;>grind[ZL,Wv]
def UY{t:TypeId}{x:Operand}(hS:St S w H)(hF:FR S w ρ a)(Y:Grow S0 w0 S w)(X:gY S0.N H0 H)(Z:a.defers=[])(hn:a.tmps.size=n)(ho:o.op=.load t x)(hb:∀x∈o.op.operands,opB n x=true)
  (I:Region.wanted o (yielded ops a.tmps)=true↔gt none) (hK:∀E H' J w',K E H'->Rel n S0 w0 H0 E H' J w'->K' J w') (h:jG P none ρ H (.load t x) fun x=>ND x ρ o.dst H K):Bc P ops o a w K' Q':=by
 refine vG (K:=fun E H'=>∃z,E=upd ρ o.dst z/\H'=H/\ND z ρ o.dst H K) hS hF Y X Z hn hb I ?_ (by rw[ho];exact Ho (fun z F=>⟨z,rfl,rfl,F⟩) h);rintro E H' J w' ⟨z,rfl,rfl,F⟩ hR;unfold ND at F;split at F
 ·obtain⟨l,ys,O,T⟩:=F;exact hK _ _ _ _ (T (fun k=>if k∈l then none else H' k) (fun k e=>if_pos e) (fun k e=>if_neg e)) (agY hR (.agg _ _ (Jj O)))
 grind
def Hy{t:TypeId}{l c:Operand}(hS:St S w H)(hF:FR S w ρ a)(hG:Grow S0 w0 S w)(hN:gY S0.N H0 H)(hd:a.defers=[])(hn:a.tmps.size=n)(ho:o.op=.makeSlice t l c)(hb:∀x∈o.op.operands,opB a.tmps.size x=true)
  (hw:Region.wanted o (yielded ops a.tmps)=true) (hK:∀O H' a' w',K O H'->Rel n S0 w0 H0 O H' a' w'->K' a' w')
  (h:cA none (aev ρ l) fun l=>cA none (aev ρ c) fun c=>wL P o t l c ρ H K):Bc P ops o a w K' Q':=by
 rw[ho]at hb;simp only[Op.operands]at hb;obtain⟨l',h2,hl⟩:=bB (S:=S) (w:=w) h;obtain⟨c',Z,hc⟩:=bB (S:=S) (w:=w) h2;have el:=hl trivial _ (dN hF (hb l (by simp)));have ec:=hc trivial _ (dN hF (hb c (by simp)));unfold wL at Z;split at Z
 ·rename_i kl x kc y;simp only[rep]at el ec;split at Z
  ·rename_i e sz E he;split at Z
   ·rename_i z hz;obtain⟨⟨⟨p1,p2⟩,p3⟩,h4⟩:=Z;obtain⟨i,v,hi,ad,rfl,ah,ag,h1⟩:=pP hz;obtain⟨i',z',ab,F,X,ae,J,ac,af,ak⟩:=jW he;rw[hi]at F;injection F with F;subst F;have Y:v.cells.size=sz:=by omega
    have ai:y<=(E:Int)*y:=by have:(1:Int)*y<=(E:Int)*y:=Int.mul_le_mul_of_nonneg_right (by omega) (by omega);omega
    have T:=run_make (P:=P) w t e i v ab hi ad kl kc x y p1 p2 (by grind) (by omega);have hm:(madeCells v.cells (y.toNat*sz)).toList=(List.replicate y.toNat v.cells.toList).flatten:=by grind[Bv]
    have aa:(madeCells v.cells (y.toNat*sz)).toList.take (x.toNat*sz)=(List.replicate x.toNat v.cells.toList).flatten:=by
     rw[hm,<-Y];have:y.toNat=x.toNat+(y.toNat-x.toNat):=by omega
     rw[this,<-List.replicate_append_replicate,List.flatten_append,List.take_append_of_le_length (by simp),List.take_of_length_le (by simp)]
    have I:∀m,bO S w (List.replicate m (v.cells.toList.map tR)).flatten (List.replicate m v.cells.toList).flatten:=by intro m;induction m<;>grind[bO,gG,oA]
    rw[X]at T;have q:=hS.newRow (e:=e) (sz:=sz) (cap:=y.toNat) (es:=List.replicate x.toNat (v.cells.toList.map tR)) (xs:=(List.replicate x.toNat v.cells.toList).flatten) (cur:=madeCells v.cells (y.toNat*sz)) J
     (fun cs aj=>by grind) (I _) (fun u hu=>by simp_all;grind) (by grind) (by grind[maxLen]) (size_madeCells _ _) (by grind) (w':=w.alloc (.cells (madeCells v.cells (y.toNat*sz)) e)) rfl rfl rfl rfl
    refine gV hw (fQ (v:=.slice (some ⟨w.heap.size,0,none⟩) x.toNat y.toNat) (w':=w.alloc (.cells (madeCells v.cells (y.toNat*sz)) e)) ?_ (hK _ _ _ _ (h4 S.N hS.fresh) (Rel.step hS hF hG hN hd hn q.1 q.2 (qZ hS) ?_)))
    all_goals simp_all[execOp,rep,Sg.addRow]
   grind
  grind
 grind
def Ka{E new:Value}(h:∀n,Instr.sameBits (n+1) E new=true)(w:World):(Instr.keyThatStays E new).run P w=.ok new w:=by simp_all[Instr.keyThatStays]
def xI{ms:List MapEntry}{i:Nat}{m:MapEntry}(E:ms[i]?=some m)(f:MapEntry->MapEntry):ms.modify i f=ms.set i (f m):=by
 apply List.ext_getElem?
 grind
def Ga{t:TypeId}{m x:AV}{F:Nat->Row->TypeId×TypeId->Option Nat->Prop}(hS:St S w H){u v:Value}(O:rep S w m u)(hv:rep S w x v)(h:Hc P H t m x F):
  ∃j r E I g ms,F j r E I/\H j=some r/\u=.map (some g)/\S.loc j=.map (some g)/\w.heap[g]?=some (.map (List.toArray ms) ms.length)/\oC S w 0 r.es ms/\r.sz=2/\P.underlying t=some (.map E.1 E.2)/\(∀e (w':World),(Instr.checkKey e 10000 E.1 v).run P w'=.ok () w') /\
   ((I=none/\∀w':World,(Instr.findKey E.1 v ms).run P w'=.ok none w') \/
   ∃i m cs,I=some i/\ms[i]?=some m/\r.es[i]?=some cs/\(∀w':World,(Instr.findKey E.1 v ms).run P w'=.ok (some (i,m.val)) w')/\m.key=v/\(∀n,Instr.sameBits (n+1) m.key v=true)/\m.born=i/\bO S w cs [m.key,m.val]):=by
 unfold Hc at h;split at h
 ·rename_i j;split at h
  ·rename_i r E Z Y;split at h
   ·rename_i I X;obtain⟨hp,h⟩:=h;simp only[rep]at O;obtain⟨_,rfl,g0,J⟩:=O;have T:=(hS.rows j r Z).mp J;obtain⟨g,ms,h1,h2,h3,h4,h5,h6⟩:=SI Y hp X T hv;obtain⟨_,_,_,_,_,aa⟩:=T
    grind
   grind
  grind
 grind
def yT{j:Nat}{r:Row}{q:Option Row}(E:H j=some r):gY S.N H (aM H j q):=fun k _ h0=>by grind[aJ]
def HC{t:TypeId}{m x v:Operand}(hS:St S w H)(Z:FR S w ρ a)(hG:Grow S0 w0 S w)(hN:gY S0.N H0 H)(hd:a.defers=[])(hn:a.tmps.size=n)(ho:o.op=.mapUpdate t m x v)(hb:∀x∈o.op.operands,opB a.tmps.size x=true)
  (hw:Region.wanted o (yielded ops a.tmps)=true) (hK:∀J H' a' w',K J H'->Rel n S0 w0 H0 J H' a' w'->K' a' w')
  (h:cA none (aev ρ m) fun m=>cA none (aev ρ x) fun x=>cA none (aev ρ v) fun v=>nW P o t m x v ρ H K):Bc P ops o a w K' Q':=by
 rw[ho]at hb;simp only[Op.operands]at hb;obtain⟨m',h,hm⟩:=bB (S:=S) (w:=w) h;obtain⟨x',h,hx⟩:=bB (S:=S) (w:=w) h;obtain⟨v',h,hv⟩:=bB (S:=S) (w:=w) h;have em:=hm trivial _ (dN Z (hb m (by simp)));have ex:=hx trivial _ (dN Z (hb x (by simp)));have ac:=hv trivial _ (dN Z (hb v (by simp)));unfold nW at h;obtain⟨j,r,kt,oi,g,ms,hk,hj,e0,hl,hg,F,Y,X,T,I⟩:=Ga hS em ex h;have O:g<w.heap.size:=(Array.getElem?_eq_some_iff.1 hg).1;rcases I with⟨rfl,ab⟩|⟨i,me,cs,rfl,q1,q2,q3,q4,q5,q6,q7⟩
 ·have E:=EZ (m:=⟨a.eval x,a.eval v,ms.length⟩) (cs:=[x',v']) 0 _ _ F (by grind[BY]) (by grind[bO]);have q:=hS.setMap hj hl E Y O;refine gV hw (yV (w':={ w with heap:=w.heap.setIfInBounds g (.map (ms++[(⟨a.eval x,a.eval v,ms.length⟩:MapEntry)]).toArray (ms++[(⟨a.eval x,a.eval v,ms.length⟩:MapEntry)]).length) }) ?_ (hK _ _ _ _ hk (Rel.step hS Z hG hN hd hn q.1 q.2 (yT hj) (by grind[rep]))));simp[execOp,ho,e0,Instr.mapUpdate,run_underlying X,MapKept.run_getObj_map hg,T,ab,MapKept.run_setObj_map _ hg]
 ·have E:=EF (m:=⟨a.eval x,a.eval v,i⟩) (cs:=[x',v']) 0 _ _ i F (by simp) (by grind[bO]);have q:=hS.setMap hj hl E Y O;refine gV hw (yV (w':={ w with heap:=w.heap.setIfInBounds g (.map (ms.set i ⟨a.eval x,a.eval v,i⟩).toArray (ms.set i (⟨a.eval x,a.eval v,i⟩:MapEntry)).length) }) ?_ (hK _ _ _ _ hk (Rel.step hS Z hG hN hd hn q.1 q.2 (yT hj) (by grind[rep]))));have aa:=Ka (P:=P) q5;simp[execOp,ho,e0,Instr.mapUpdate,run_underlying X,MapKept.run_getObj_map hg,T,q3,q1,aa,MapKept.run_setObj_map _ hg,xI q1,q6]
def Ow{t:TypeId}{m x v:Operand}(hS:St S w H)(Z:FR S w ρ a)(hG:Grow S0 w0 S w)(hN:gY S0.N H0 H)(hd:a.defers=[])(hn:a.tmps.size=n)(ho:o.op=.insert t m x v)(hb:∀x∈o.op.operands,opB a.tmps.size x=true)
  (hw:Region.wanted o (yielded ops a.tmps)=true) (hK:∀J H' a' w',K J H'->Rel n S0 w0 H0 J H' a' w'->K' a' w')
  (h:cA none (aev ρ m) fun m=>cA none (aev ρ x) fun x=>cA none (aev ρ v) fun v=>nW P o t m x v ρ H K):Bc P ops o a w K' Q':=by
 rw[ho]at hb;simp only[Op.operands]at hb;obtain⟨m',h,hm⟩:=bB (S:=S) (w:=w) h;obtain⟨x',h,hx⟩:=bB (S:=S) (w:=w) h;obtain⟨v',h,hv⟩:=bB (S:=S) (w:=w) h;have em:=hm trivial _ (dN Z (hb m (by simp)));have ex:=hx trivial _ (dN Z (hb x (by simp)));have ac:=hv trivial _ (dN Z (hb v (by simp)));unfold nW at h;obtain⟨j,r,kt,oi,g,ms,hk,hj,e0,hl,hg,F,Y,X,T,I⟩:=Ga hS em ex h;have O:g<w.heap.size:=(Array.getElem?_eq_some_iff.1 hg).1;rcases I with⟨rfl,ab⟩|⟨i,me,cs,rfl,q1,q2,q3,q4,q5,q6,q7⟩
 ·have E:=EZ (m:=⟨a.eval x,a.eval v,ms.length⟩) (cs:=[x',v']) 0 _ _ F (by grind[BY]) (by grind[bO]);have q:=hS.setMap hj hl E Y O;refine gV hw (yV (w':={ w with heap:=w.heap.setIfInBounds g (.map (ms++[(⟨a.eval x,a.eval v,ms.length⟩:MapEntry)]).toArray (ms++[(⟨a.eval x,a.eval v,ms.length⟩:MapEntry)]).length) }) ?_ (hK _ _ _ _ hk (Rel.step hS Z hG hN hd hn q.1 q.2 (yT hj) (by grind[rep]))));simp[execOp,ho,e0,Instr.mapUpdate,run_underlying X,MapKept.run_getObj_map hg,T,ab,MapKept.run_setObj_map _ hg]
 ·have E:=EF (m:=⟨a.eval x,a.eval v,i⟩) (cs:=[x',v']) 0 _ _ i F (by simp) (by grind[bO]);have q:=hS.setMap hj hl E Y O;refine gV hw (yV (w':={ w with heap:=w.heap.setIfInBounds g (.map (ms.set i ⟨a.eval x,a.eval v,i⟩).toArray (ms.set i (⟨a.eval x,a.eval v,i⟩:MapEntry)).length) }) ?_ (hK _ _ _ _ hk (Rel.step hS Z hG hN hd hn q.1 q.2 (yT hj) (by grind[rep]))));have aa:=Ka (P:=P) q5;simp[execOp,ho,e0,Instr.mapUpdate,run_underlying X,MapKept.run_getObj_map hg,T,q3,q1,aa,MapKept.run_setObj_map _ hg,xI q1,q6]
def Ku{t:TypeId}{m x:Operand}(hS:St S w H)(hF:FR S w ρ a)(hG:Grow S0 w0 S w)(hN:gY S0.N H0 H)(hd:a.defers=[])(hn:a.tmps.size=n)(ho:o.op=.mapEntry t m x)(hb:∀x∈o.op.operands,opB a.tmps.size x=true)
  (hw:Region.wanted o (yielded ops a.tmps)=true) (hK:∀X H' a' w',K X H'->Rel n S0 w0 H0 X H' a' w'->K' a' w')
  (h:cA none (aev ρ m) fun m=>cA none (aev ρ x) fun x=>CG P o t m x ρ H K):Bc P ops o a w K' Q':=by
 rw[ho]at hb;simp only[Op.operands]at hb;obtain⟨m',h,hm⟩:=bB (S:=S) (w:=w) h;obtain⟨x',h,hx⟩:=bB (S:=S) (w:=w) h;have em:=hm trivial _ (dN hF (hb m (by simp)));have ex:=hx trivial _ (dN hF (hb x (by simp)));unfold CG at h;obtain⟨j,r,kt,oi,g,ms,T,hj,e0,hl,hg,O,ad,Z,Y,I⟩:=Ga hS em ex h;have ac:g<w.heap.size:=(Array.getElem?_eq_some_iff.1 hg).1;rcases I with⟨rfl,ae⟩|⟨i,me,cs,rfl,q1,q2,q3,q4,q5,q6,q7⟩
 ·simp only at T;split at T
  ·rename_i z hz;obtain⟨zv,aa,af⟩:=MQ hz;have E:=EZ (m:=⟨a.eval x,zv,ms.length⟩) (cs:=[x',z]) 0 _ _ O (by grind[BY]) (by grind[bO]);have q:=hS.setMap hj hl E ad ac;refine gV hw (fQ (v:=.tuple #[zv,goInt ms.length]) (w':={ w with heap:=w.heap.setIfInBounds g (.map (ms++[(⟨a.eval x,zv,ms.length⟩:MapEntry)]).toArray (ms++[(⟨a.eval x,zv,ms.length⟩:MapEntry)]).length) }) ?_ (hK _ _ _ _ T (Rel.step hS hF hG hN hd hn q.1 q.2 (yT hj) ?_)))
   ·simp[execOp,ho,e0,Instr.mapEntry,run_underlying Z,MapKept.run_getObj_map hg,Y,ae,aa,MapKept.run_setObj_map _ hg]
   grind[rep,bO,goInt,BY]
  grind
 ·simp only at T;have J:ms.set i ⟨a.eval x,me.val,i⟩=ms:=by
   have e0:(⟨a.eval x,me.val,i⟩:MapEntry)=me:=by rw[<-q4,<-q6]
   rw[e0];apply List.ext_getElem?
   grind
  have hm:({ w with heap:=w.heap.setIfInBounds g (.map ms.toArray ms.length) }:World)=w:=by
   have hh:w.heap.setIfInBounds g (.map ms.toArray ms.length)=w.heap:=by grind
   rw[hh]
  obtain⟨xk,xv,rfl,r1,r2⟩:=Ko q7;have e1:(r.es.getD i []).getD 1 .any=xv:=by grind
  rw[e1]at T;refine gV hw (fQ (v:=.tuple #[me.val,goInt i]) (w':=w) ?_ (hK _ _ _ _ T (Rel.step hS hF hG hN hd hn hS (Grow.refl S w) (gY.refl _ _) ?_)))
  ·have ab:=Ka (P:=P) q5;have F:=MapKept.run_setObj_map (P:=P) (.map (List.toArray ms) ms.length) hg;rw[hm]at F;simp[execOp,ho,e0,Instr.mapEntry,run_underlying Z,MapKept.run_getObj_map hg,Y,q3,q1,ab,xI q1,J,F,q6]
  grind[rep,bO,goInt]
def LQ:∀(i:Nat) (es:List (List AV)) (ms:List MapEntry) (j:Nat) {m:MapEntry},oC S w i es ms->ms[j]?=some m->ms.findIdx? (fun e=>(e.born:Int) == ((i+j:Nat):Int))=some j
 | _,[],ms,j,m,h,hj=>by grind[oC]
 | i,c::r,ms,0,m,h,hj=>by grind[oC]
 | i,c::r,ms,j+1,m,h,hj=>by
  simp only[oC]at h;obtain⟨F,t,rfl,h1,_,I⟩:=h;have ih:=LQ (i+1) r t j I (by simpa using hj);have E:((F.born:Int) == ((i+(j+1):Nat):Int))=false:=by simp[h1];omega
  rw[List.findIdx?_cons,E,show i+(j+1)=i+1+j by omega,ih];rfl
def Ge{t:TypeId}{m s v:Operand}(hS:St S w H)(Y:FR S w ρ a)(hG:Grow S0 w0 S w)(hN:gY S0.N H0 H)(hd:a.defers=[])(hn:a.tmps.size=n)(ho:o.op=.entryStore t m s v)(X:∀x∈o.op.operands,opB a.tmps.size x=true)
  (hw:Region.wanted o (yielded ops a.tmps)=true) (hK:∀J H' a' w',K J H'->Rel n S0 w0 H0 J H' a' w'->K' a' w')
  (h:cA none (aev ρ m) fun m=>cA none (aev ρ s) fun s=>cA none (aev ρ v) fun v=>xE o m s v ρ H K):Bc P ops o a w K' Q':=by
 rw[ho]at X;simp only[Op.operands]at X;obtain⟨m',h,hm⟩:=bB (S:=S) (w:=w) h;obtain⟨s',h,hs⟩:=bB (S:=S) (w:=w) h;obtain⟨v',h,hv⟩:=bB (S:=S) (w:=w) h;have em:=hm trivial _ (dN Y (X m (by simp)));have es:=hs trivial _ (dN Y (X s (by simp)));have ac:=hv trivial _ (dN Y (X v (by simp)));unfold xE at h;split at h
 ·rename_i j kd i _ _;split at h
  ·rename_i r Z;obtain⟨⟨i0,i1⟩,h⟩:=h;simp only[rep]at em es;obtain⟨_,e0,g0,O⟩:=em;rw[e0]at O;obtain⟨g,ms,hl,hg,E,ab⟩:=(hS.rows j r Z).mp O;have aa:g<w.heap.size:=(Array.getElem?_eq_some_iff.1 hg).1;obtain⟨I,g1,g2,g3⟩:=QC 0 _ _ i.toNat E (by omega);obtain⟨xk,xv,e1,r1,r2⟩:=Ko g3;have e2:(r.es.getD i.toNat []).getD 0 .any=xk:=by grind
   rw[e2]at h;have F:=EF (m:=⟨I.key,a.eval v,I.born⟩) (cs:=[xk,v']) 0 _ _ i.toNat E (by omega) (by grind[bO]);have q:=hS.setMap Z hl F ab aa;have T:=LQ 0 _ _ i.toNat E g1;rw[Nat.zero_add,Int.toNat_of_nonneg i0]at T;refine gV hw (yV (w':={ w with heap:=w.heap.setIfInBounds g (.map (ms.set i.toNat ⟨I.key,a.eval v,I.born⟩).toArray (ms.set i.toNat (⟨I.key,a.eval v,I.born⟩:MapEntry)).length) }) ?_ (hK _ _ _ _ h (Rel.step hS Y hG hN hd hn q.1 q.2 (yT Z) (by grind[rep]))));rw[hl]at e0;simp[execOp,ho,e0,es,asInt,asIntOf,Instr.entryStore,MapKept.run_getObj_map hg,T,MapKept.run_setObj_map _ hg,xI g1]
  grind
 grind
def KP{t:TypeId}(F:St S w H)(hF:FR S w ρ a)(X:Grow S0 w0 S w)(T:gY S0.N H0 H)(Z:a.defers=[])(Y:a.tmps.size=n)(ho:o.op=.makeMap t none)
  (J:Region.wanted o (yielded ops a.tmps)=true) (O:∀E H' I w',K E H'->Rel n S0 w0 H0 E H' I w'->K' I w')
  (h:rO H ⟨0,2,[]⟩ fun k H'=>K (upd ρ o.dst (.om k)) H'):Bc P ops o a w K' Q':=by
 have q:=F.newMap (w':=w.alloc (.map #[] 0)) rfl rfl rfl rfl;refine gV J (fQ (v:=.map (some w.heap.size)) (w':=w.alloc (.map #[] 0)) ?_ (O _ _ _ _ (h S.N F.fresh) (Rel.step F hF X T Z Y q.1 q.2 (qZ F) ?_)))
 all_goals simp_all[execOp,Instr.makeMap,rep,Sg.addRow]
def CR{af:Bool}(ai:∀o∈ops,mA n o=true)(F:St S w H)(T:FR S w ρ a)(Y:Grow S0 w0 S w)(Z:gY S0.N H0 H)(hd:a.defers=[])(J:a.tmps.size=n)(hb:mA n o=true)
   (hK:∀aj H' a' w',K aj H'->Rel n S0 w0 H0 aj H' a' w'->K' a' w') (h:aop P (bK P) (eV P) mt af ops o ρ H K):Bc P ops o a w K' Q':=by
 obtain⟨I,_⟩:=AM hb;unfold aop at h;obtain⟨G,h2,E⟩:=Ad ai T J h;clear h;have h:=h2;clear h2;split at h
 . -- assign
   rename_i x O;unfold EI at h;split at h
   . rename_i ag;obtain⟨_,rfl,_,hx⟩:=ag;have hx:x=.const (.slice none 0 0):=by grind[wA]
     subst hx;split at h
     . rename_i e sz ae he;obtain⟨i,z,hu,hi,ao,_,X,_⟩:=jW he;have hw:=dY E rfl;have q:=F.nilRow e X;refine gV hw (fQ (v:=.slice none 0 0) (w':=w) (by simp[execOp,O,Act.eval]) (hK _ _ _ _ (h S.N F.fresh) (Rel.step F T Y Z hd J q.1 q.2 (qZ F) ?_)));simp[rep,Sg.addRow]
     grind
   . exact vG F T Y Z hd J I E hK (by rw[O];exact h)
 . -- alloc
   rename_i t O;split at h
   . rename_i z hz;obtain⟨rfl,_,h⟩:=h;have hw:=dY E rfl;split at h
     . split at h
       . rename_i nl ak;exact Sl F T Y Z hd J O hz hw hK ak h
       grind
     obtain⟨v,i,hi,rfl,h1,ar,ab⟩:=abC hz (.tuple #[]) w;obtain⟨S',q1,q2,q3⟩:=FB (t:=t) (cs:=v.cells.toList.map tR) (l:=v.cells.toList) F (by grind) (oA _) h1;refine gV hw (fQ (v:=.pointer (some ⟨w.heap.size,0,none⟩)) (w':=w.alloc (.cells v.cells t)) (by simp_all[execOp]) (hK _ _ _ _ (h S.N F.fresh) (Rel.step F T Y Z hd J (by omega) (by omega) (qZ F) (by omega))))
   grind
 . -- box
   rename_i t x O;obtain⟨rfl,_,h⟩:=h;have hw:=dY E rfl;obtain⟨y,h2,hy⟩:=bB (S:=S) (w:=w) h;obtain⟨cs,h3,ah⟩:=Ap (S:=S) (w:=w) h2;have hx:opB a.tmps.size x=true:=J▸I x (by grind[Op.operands]);obtain⟨l,e1,e2,e3⟩:=ah _ (hy trivial _ (dN T hx));have ab:(execOp a.eval o).run P w=.ok (.value (.pointer (some ⟨w.heap.size,0,none⟩))) (w.alloc (.cells l.toArray t)):=by simp_all[execOp,amL]
   unfold anD at h3;split at h3
   . obtain⟨X,h4⟩:=h3;obtain⟨S',q1,q2,q3⟩:=FB (t:=t) F X e2 e3;exact gV hw (fQ ab (hK _ _ _ _ (h4 S.N F.fresh) (Rel.step F T Y Z hd J q1 q2 (qZ F) q3)))
   . have q:=F.newRo (o:=.cells l.toArray t) (w':=w.alloc (.cells l.toArray t)) rfl rfl rfl rfl;refine gV hw (fQ ab (hK _ _ _ _ h3 (Rel.step F T Y Z hd J q.1 q.2 (gY.refl _ _) ?_)));simp only[rep];refine⟨w.heap.size,0,by simp,.inr rfl,?_⟩;refine kQ _ l 0 (eU q.2.le (q.2.kept F) _ _ e2) e3 fun j u hj=>?_
     simp_all
 . -- buildSlice
   rename_i t m aa O;obtain⟨_,h⟩:=h;obtain⟨ps,h2,al⟩:=qV T aa.toList (fun p hp=>J▸I p.2 (by grind[Op.operands])) h;unfold qE at h2;split at h2
   . rename_i e sz ae he;obtain⟨⟨p1,p2,p3⟩,h3⟩:=h2;have go:∀(_:gt G),∃xs:List Value,(execOp a.eval o).run P w=.ok (.value (.slice (some ⟨w.heap.size,0,none⟩) m m)) (w.alloc (.cells xs.toArray e))/\bO S w (ps.map (·.2)).flatten xs/\(∀u∈xs,u.oneCell'=true)/\ps.length=m/\xs.length=m*sz:=fun hg=>by
       obtain⟨f1,f2⟩:=al hg;have hl:(aa.map fun(p:Nat×Operand)=>(p.1,a.eval p.2)).toList=aa.toList.map fun p=>(p.1,a.eval p.2):=by simp
       rw[<-hl]at f1 f2;obtain⟨xs,g1,g2,g3,g4,g5⟩:=IZ (w:=w) he p1 p2 f1 f2 p3
       grind[execOp,aiM]
     obtain⟨av,z,hu,hi,ao,_,X,_⟩:=jW he;split at h3
     . rename_i ag;obtain⟨_,rfl⟩:=ag;have hw:=dY E rfl;obtain⟨xs,g1,g2,g3,g4,g5⟩:=go trivial;have ad:(ps.map (·.2)).length=m:=by grind
       have q:=F.newRow (e:=e) (sz:=sz) (cap:=m) (es:=ps.map (·.2)) (xs:=xs) (cur:=xs.toArray) X (jV.1 p2) g2 g3 (by omega) (by simp only[maxLen];have:m<=m*sz:=Nat.le_mul_of_pos_right _ X;omega) (by omega)
         (by grind) (w':=w.alloc (.cells xs.toArray e)) rfl rfl rfl rfl
       refine gV hw (fQ g1 (hK _ _ _ _ (h3 S.N F.fresh) (Rel.step F T Y Z hd J q.1 q.2 (qZ F) ?_)));simp_all[rep,Sg.addRow]
     . refine And.symm ⟨fun hw=>?_,fun hw=>?_⟩
       . have ac:¬gt G:=fun h=>by grind
         exact hK _ _ _ _ h3 (Rel.step F T Y Z hd J F (Grow.refl S w) (gY.refl _ _) (fW ac))
       have ac:=E.1 hw;obtain⟨xs,g1,g2,g3,g4,g5⟩:=go ac;have ad:(ps.map (·.2)).length=m:=by grind
       have q:=F.newRo (o:=.cells xs.toArray e) (w':=w.alloc (.cells xs.toArray e)) rfl rfl rfl rfl;refine fQ g1 (hK _ _ _ _ h3 (Rel.step F T Y Z hd J q.1 q.2 (gY.refl _ _) (gT ac ?_)));simp only[rep];refine⟨_,_,_,rfl,ad,Nat.le_refl _,by simp only[maxLen];have:m<=m*sz:=Nat.le_mul_of_pos_right _ X;omega,.inr ⟨w.heap.size,0,sz,rfl,.inr rfl,X,?_⟩⟩;refine tK _ _ (jV.1 p2) (kQ _ xs 0 (eU q.2.le (q.2.kept F) _ _ g2) g3 fun j u hj=>?_);simp_all
   grind
 . -- store
   rename_i t x y O;obtain⟨rfl,_,h⟩:=h;have hw:=dY E rfl;split at h
   . rename_i au;have hy:y=.const (.slice none 0 0):=by grind[wA]
     subst hy;exact HA (K2:=fun _=>True) F T Y Z hd J O (fun x hx=>J▸I x hx) hw hK h
   obtain⟨x',h2,am⟩:=bB (S:=S) (w:=w) h;obtain⟨y',h3,ap⟩:=bB (S:=S) (w:=w) h2;obtain⟨cs,h4,ah⟩:=Ap (S:=S) (w:=w) h3;have aq:opB a.tmps.size x=true:=J▸I x (by grind[Op.operands]);have an:opB a.tmps.size y=true:=J▸I y (by grind[Op.operands]);have ex:=am trivial _ (dN T aq);obtain⟨l,e1,e2,e3⟩:=ah _ (ap trivial _ (dN T an));exact Ew F T Y Z hd J O hw hK ex e1 e2 e3 h4
 . rename_i c O;exact Ts F T Y Z hd J O I E hK h
 all_goals first
   | exact h.elim
   | (rename_i O; split at h
      . obtain⟨rfl,_,h⟩:=h;exact O6 F T Y Z hd J O (fun x hx=>J▸I x hx) (dY E rfl) hK h
      . exact vG F T Y Z hd J I E hK (by grind))
   | (rename_i O; split at h
      . obtain⟨rfl,_,h⟩:=h;exact UY F T Y Z hd J O I E hK h
      . exact vG F T Y Z hd J I E hK (by grind))
   | (rename_i O; split at h
      . obtain⟨rfl,h⟩:=h;split at h
        . exact OO F T Y Z hd J O (fun x hx=>J▸I x hx) (dY E rfl) hK h
        . exact Pu F T Y Z hd J O (fun x hx=>J▸I x hx) (dY E rfl) hK h
      . exact vG F T Y Z hd J I E hK (by grind))
   | (rename_i O;obtain⟨rfl,_,h⟩:=h;exact Hy F T Y Z hd J O (fun x hx=>J▸I x hx) (dY E rfl) hK h)
   | (rename_i O;exact vG F T Y Z hd J I E hK (by rw[O];exact h))
   | (rename_i O;obtain⟨rfl,_,h⟩:=h;exact KP F T Y Z hd J O (dY E rfl) hK h)
   | (rename_i O;obtain⟨rfl,_,h⟩:=h;exact HC F T Y Z hd J O (fun x hx=>J▸I x hx) (dY E rfl) hK h)
   | (rename_i O;obtain⟨rfl,_,h⟩:=h;exact Ow F T Y Z hd J O (fun x hx=>J▸I x hx) (dY E rfl) hK h)
   | (rename_i O;obtain⟨rfl,_,h⟩:=h;exact Ku F T Y Z hd J O (fun x hx=>J▸I x hx) (dY E rfl) hK h)
   | (rename_i O;obtain⟨rfl,_,h⟩:=h;exact Ge F T Y Z hd J O (fun x hx=>J▸I x hx) (dY E rfl) hK h)
end
end Go.Aw
end
section
namespace Go.Aw
open Go.RowKit
section
variable{P:Program}{ops:Array Oper}{md:Region.Mode}{C:World->Prop}{R:World->World->Prop}{Q':Exit->Act->World->Prop}
def Ot(P:Program)(K:Value->World->Prop):Result Next->Prop
 | .ok (.value v) w'=>K v w'
 | .ok .skip w'=>K undef w'
 | .ok (.enter f args) w'=>Calls P f args w' fun e w''=>∃v,e=.returned v/\K v w''
 | .ok (.row row args) w'=>Rows P row args w' K
 | _=>False
def gAt(P:Program)(o:Oper)(a:Act)(w:World)(K:Value->World->Prop):Prop:=Ot P K ((execOp a.eval o).run P w)
def gOp(P:Program)(ops:Array Oper)(i:Nat)(K:Act->World->Prop)(a:Act)(w:World):Prop:=
 match ops[i]? with
 | none=>False
 | some o=>if Region.wanted o (yielded ops a.tmps)=true then gAt P o a w (fun v w'=>K (a.put o.dst v) w')else K (a.put o.dst undef) w
def yR{K K':Value->World->Prop}(h:∀v w,K v w->K' v w){r:Result Next}(E:Ot P K r):Ot P K' r:=by
 cases r with
 | ok n w'=>
  cases n <;> simp only[Ot]at E |-
  case value u=>grind
  case skip=>grind
  case enter f args=>exact E.mono fun e I ⟨v,J,F⟩=>⟨v,J,h _ _ F⟩
  case row row args=>exact E.mono h
 | halt x w'=>grind[Ot]
def Kz{i:Nat}{a:Act}{w:World}{K K':Act->World->Prop}(h:∀a w,K a w->K' a w)(E:gOp P ops i K a w):gOp P ops i K' a w:=by
 unfold gOp at *;split
 ·grind
 ·rename_i o J;simp only[J]at E;split
  ·rename_i F;rw[if_pos F]at E;exact yR (fun v w' I=>h _ _ I) E
  grind
def acD{o:Oper}{a:Act}{w:World}{K:Act->World->Prop}(h:gAt P o a w (fun v w'=>K (a.put o.dst v) w')):o.wp P a w K Q':=by
 unfold Oper.wp;unfold gAt at h;generalize (execOp a.eval o).run P w=r at *;cases r with
 | ok n w'=>
  cases n <;> simp only[Ot]at h <;> simp only[Oper.upon]
  case value u=>exact h
  case skip=>exact h
  case enter f args=>exact h.mono fun e E ⟨v,I,F⟩=>by grind
  omega
 | halt x w'=>grind[Ot]
def Sx{i:Nat}{a:Act}{w:World}{K:Act->World->Prop}(h:gOp P ops i K a w):wpOp P ops Q' i K a w:=by
 unfold gOp at h;unfold wpOp;split
 ·grind
 ·rename_i o E;simp only[E]at h;split
  all_goals simp_all[acD]
def N3{o:Oper}{a:Act}{w:World}{v:Value}{D:World->Prop}(E:D w)(h:o.quietAt P a D w v):gAt P o a w (fun u w'=>u=v/\D w'):=by
 unfold Oper.quietAt at h;unfold gAt;generalize (execOp a.eval o).run P w=r at *;cases r with
 | ok n w'=>
  cases n <;> simp only[Oper.quietUpon]at h <;> simp only[Ot]
  all_goals grind
 | halt x w'=>grind[Oper.quietUpon]
def mK(P:Program)(md:Region.Mode)(ops:Array Oper)(C:World->Prop)(R:World->World->Prop)(Q':Exit->Act->World->Prop):Nat->Array Bool->Act->World->Prop
 | 0,listed,a,w=>Region.ready md ops listed=[]/\Q' .normal a w
 | f+1,listed,a,w=>Region.ready md ops listed≠[] /\
   ∀i∈Region.ready md ops listed,gOp P ops i (fun a' w'=>C w'/\∀w2,R w' w2->mK P md ops C R Q' f (listed.setIfInBounds i true) a' w2) a w
def zW(E:∀w,R w w):∀(f:Nat) (listed:Array Bool) (a:Act) (w:World),mK P md ops C R Q' f listed a w->wpAny P md ops Q' f listed a w
 | 0,_,_,_,h=>h
 | f+1,_,_,_,h=>⟨fun h0=>absurd h0 h.1,fun i I=>Sx (Kz (fun J w' F=>zW E f _ _ _ (F.2 w' (E w'))) (h.2 i I))⟩
def YQ(P:Program)(ops:Array Oper)(C:World->Prop)(R:World->World->Prop)(o:Oper)(v:Value)(a:Act):Prop:=
 (Region.wanted o (yielded ops a.tmps)=true/\∀w,C w->o.quietAt P a (R w) w v)\/(Region.wanted o (yielded ops a.tmps)=false/\v=undef)
def YQ.of_same{o:Oper}{v:Value}{a E:Act}(I:YQ P ops C R o v a)(J:execOp E.eval o=execOp a.eval o)
 (F:Region.wanted o (yielded ops E.tmps)=Region.wanted o (yielded ops a.tmps)):YQ P ops C R o v E:=by grind[YQ,Oper.quietAt]
def anG{j:Nat}{E F:Oper}{v:Value}(Z:ops[j]?=some F)(J:E.apart ops F=true)
  (T:∀cs b,E.op≠.select cs b) (O:∀cs b,F.op≠.select cs b) {K:Act->World->Prop} {a:Act} {w:World}
  (hy:YQ P ops C R E v a) (h:gOp P ops j K (a.put E.dst v) w):
  gOp P ops j (fun Y w'=>YQ P ops C R E v Y/\K (Y.put E.dst v) w') a w:=by
 obtain⟨h1,h2,X⟩:=Oper.apart_spec J;have keep:∀u,YQ P ops C R E v (a.put F.dst u):=fun u=>hy.of_same (execOp_put E T a F.dst u X) (wanted_put E a F.dst u X)
 unfold gOp at *;simp only[Z]at *;rw[wanted_put F a E.dst v h1]at h;split
 ·rename_i I;rw[if_pos I]at h;unfold gAt at *;rw[execOp_put F O a E.dst v h1]at h
  grind[Act.put_comm]
 ·rename_i I;rw[if_neg I]at h
  grind[Act.put_comm]
def ML{i:Nat}{E:Oper}{v:Value}{a:Act}{w:World}(T:ops[i]?=some E)(J:C w)(X:∀w,R w w)(O:YQ P ops C R E v a){K:Act->World->Prop}(h:∀w',R w w'->K (a.put E.dst v) w'):
  gOp P ops i K a w:=by
 unfold gOp;simp only[T];rcases O with⟨F,I⟩|⟨F,rfl⟩
 ·rw[if_pos F];exact yR (fun u w' ⟨e,Y⟩=>by grind) (N3 (X w) (I w J))
 grind
def oL{i:Nat}{oi:Oper}{v:Value}(hi:ops[i]?=some oi)(O:∀(j:Nat) (o:Oper) cs b,ops[j]?=some o->o.op≠.select cs b)
   (hR:∀w,R w w) (hT:∀w w' ad,R w w'->R w' ad->R w ad) (Z:∀w w',C w->R w w'->C w'):
   ∀(f:Nat) (E:Array Bool) (a:Act) (w:World),C w ->
     (∀j Y,ops[j]?=some Y->j≠i->E.getD j true=false->(∀e∈Y.after,Region.binds md e=true->e.on≠i)->oi.apart ops Y=true) ->
     i∈Region.ready md ops E->YQ P ops C R oi v a ->
     (∀T,R w T->mK P md ops C R Q' f (E.setIfInBounds i true) (a.put oi.dst v) T)->mK P md ops C R Q' (f+1) E a w:=by
 intro f;induction f with
 | zero=>
   intro E a w hC _ hr hy H;refine⟨fun h=>(by grind),fun j hj=>?_⟩;by_cases F:j=i
   . subst F;exact ML hi hC hR hy fun w' I=>⟨Z _ _ hC I,fun T h2=>H T (hT _ _ _ I h2)⟩
   . have:=ready_mono hj F;rw[(H w (hR w)).1]at this
     grind
 | succ f ih=>
   intro E a w hC aa hr hy H;refine⟨fun h=>(by grind),fun j hj=>?_⟩;by_cases F:j=i
   . subst F;exact ML hi hC hR hy fun w' I=>⟨Z _ _ hC I,fun T h2=>H T (hT _ _ _ I h2)⟩
   . have h1:=(H w (hR w)).2 j (ready_mono hj F);obtain⟨ac,Y,X,ag⟩:=mem_ready.1 hj;have ab:∀e∈Y.after,Region.binds md e=true->e.on≠i:=fun e he hb ak=>by grind[mem_ready]
     have h2:=anG X (aa j Y X F ac ab) (fun cs b=>O i oi cs b hi) (fun cs b=>O j Y cs b X) hy h1;have J : ∀ k ok, ops[k]? = some ok -> k ≠ i -> (E.setIfInBounds j true).getD k true = false ->
         (∀e∈ok.after,Region.binds md e=true->e.on≠i)->oi.apart ops ok=true:=fun k ok hk ah aj ai=>by simp_all;grind
     refine Kz (fun a' w' ⟨af,ae,hk⟩=>⟨ae,fun T h2=>ih (E.setIfInBounds j true) a' T (Z _ _ ae h2) J (ready_mono hr (Ne.symm F)) af fun w3 h3=>?_⟩) h2
     grind[Array.setIfInBounds_comm]
end
def Rw(w w':World):Prop:=w'.os=w.os/\w'.tape=w.tape/\w'.output=w.output/\w.heap.size<=w'.heap.size/\∀k,k<w.heap.size->w'.heap[k]?=w.heap[k]?
theorem Rw.refl(w:World):Rw w w:=⟨rfl,rfl,rfl,Nat.le_refl _,fun _ _=>rfl⟩
def Rw.trans{w w' F:World}(h:Rw w w')(E:Rw w' F):Rw w F:=
 ⟨E.1.trans h.1,E.2.1.trans h.2.1,E.2.2.1.trans h.2.2.1,Nat.le_trans h.2.2.2.1 E.2.2.2.1,fun k I=>(E.2.2.2.2 k (Nat.lt_of_lt_of_le I h.2.2.2.1)).trans (h.2.2.2.2 k I)⟩
def Cb(S:Sg)(wb w:World):Prop:=w.os=wb.os/\w.tape=wb.tape/\w.output=wb.output/\wb.heap.size<=w.heap.size/\∀k,S.fz k->w.heap[k]?=wb.heap[k]?
def Cb.rw{S:Sg}{wb w w':World}{H:aG}(I:St S wb H)(h:Cb S wb w)(E:Rw w w'):Cb S wb w':=
 ⟨E.1.trans h.1,E.2.1.trans h.2.1,E.2.2.1.trans h.2.2.1,Nat.le_trans h.2.2.2.1 E.2.2.2.1,fun k F=>(E.2.2.2.2 k (Nat.lt_of_lt_of_le (I.fz_lt k F) h.2.2.2.1)).trans (h.2.2.2.2 k F)⟩
def Rw.cb{S:Sg}{wb w:World}{H:aG}(F:St S wb H)(h:Rw wb w):Cb S wb w:=⟨h.1,h.2.1,h.2.2.1,h.2.2.2.1,fun k E=>h.2.2.2.2 k (F.fz_lt k E)⟩
def Cb.st{S:Sg}{wb w:World}{H:aG}(F:St S wb H)(h:Cb S wb w):St S w bQ:=
 ⟨F.ro_fz,fun k E=>Nat.lt_of_lt_of_le (F.fz_lt k E) h.2.2.2.1,fun k r E=>by grind[bQ],fun k r E=>by grind[bQ],fun k k' r r' E=>by grind[bQ],F.tabs.keep S.le_refl (fun k E=>h.2.2.2.2 k (F.ro_fz k E))⟩
def Cb.kept{S:Sg}{wb w:World}{H:aG}(F:St S wb H)(h:Cb S wb w):iL S wb w:=fun k E=>h.2.2.2.2 k (F.ro_fz k E)
def Cb.agree{S:Sg}{wb w:World}{H:aG}(E:St S wb H)(h:Cb S wb w):Agree S bQ wb w:=⟨h.kept E,fun k r F=>by grind[bQ]⟩
def Grow.cb{S S':Sg}{wb w:World}(h:Grow S wb S' w):Cb S wb w:=⟨h.os,h.tape,h.output,h.size,h.same⟩
section
variable{P:Program}{n:Nat}{S0:Sg}{w0:World}{H0:aG}{mt:Nat->Bool}{ops:Array Oper}{K:Env->aG->Prop}{ρ:Env}{H:aG}{a:Act}{w:World}
def Rel.rw{w':World}(h:Rel n S0 w0 H0 ρ H a w)(E:Rw w w'):Rel n S0 w0 H0 ρ H a w':=by obtain⟨S,F,Y,O,J,X,T⟩:=h;have I:=F.grow E.1 E.2.1 E.2.2.1 E.2.2.2.1 E.2.2.2.2;exact⟨S,F.after E.2.2.2.1 E.2.2.2.2,Y.keep S.le_refl (I.kept F),O.trans I,J,X,T⟩
def FF{o:Oper}{K':Act->World->Prop}(I:∀a w,K' a w->a.defers=[])(h:o.wp P a w K' fun _ _ _=>False):gAt P o a w fun v w'=>K' (a.put o.dst v) w':=by
 unfold Oper.wp at h;unfold gAt;generalize (execOp a.eval o).run P w=r at *;cases r with
 | ok m w'=>
  cases m <;> simp only[Oper.upon]at h <;> simp only[Ot]
  case value u=>exact h
  case skip=>exact h
  case enter f args=>
   refine h.mono fun e E F=>?_
   cases e
   case returned v=>grind
   case panicked c=>grind
   case outgrown=>obtain⟨_,_,h⟩:=F;grind
  all_goals grind[sU]
 | halt x w'=>cases x <;> simp only[Oper.upon]at h
variable{S:Sg}
def zY{o:Oper}{w1:World}{CC:World->Prop}(I:∀w,CC w->St S w H/\Agree S H w1 w)(hS:St S w1 H)(X:FR S w1 ρ a)(hn:a.tmps.size=n)(Y:∀x∈o.op.operands,opB n x=true){G:Option Bool}
  (E:Region.wanted o (yielded ops a.tmps)=true↔gt G) (h:jG P G ρ H o.op fun x=>K (upd ρ o.dst (wr G x)) H):
  ∃z,K (upd ρ o.dst z) H/\(Region.wanted o (yielded ops a.tmps)=true->∃v,rep S w1 z v/\∀w,CC w->o.quietAt P a (Rw w) w v)/\(Region.wanted o (yielded ops a.tmps)=false->rep S w1 z undef):=by
 obtain⟨z,J,hg⟩:=G9 (hn▸Y) X hS.rows h;refine⟨_,J,fun F=>?_,fun F=>?_⟩
 ·obtain⟨v,Z,O⟩:=hg (E.1 F);refine⟨v,gT (E.1 F) Z,fun w T=>?_⟩;unfold Oper.quietAt;rw[O w (I w T).2 o rfl];exact⟨rfl,rfl⟩
 grind[fW]
def Tp{o:Oper}{c:Call}{w1:World}{CC:World->Prop}(aa:∀w,CC w->St S w H/\Agree S H w1 w)(hS:St S w1 H)(hF:FR S w1 ρ a)(hn:a.tmps.size=n)(ho:o.op=.call c)(hb:∀x∈o.op.operands,opB n x=true){G:Option Bool}
  (ab:Region.wanted o (yielded ops a.tmps)=true↔gt G) {nl:Bool} (h:E0 P (bK P) (eV P) nl true G o c ρ H K):
  ∃z,K (upd ρ o.dst z) H/\(Region.wanted o (yielded ops a.tmps)=true->∃v,rep S w1 z v/\∀w,CC w->o.quietAt P a (Rw w) w v)/\(Region.wanted o (yielded ops a.tmps)=false->rep S w1 z undef):=by
 rw[ho]at hb;simp only[Op.operands,Call.operands]at hb;unfold E0 at h;split at h
 ·rename_i b hc;obtain⟨ys,h2,Y⟩:=qC hF c.args.toList (fun x hx=>hn▸hb x (by grind)) h;clear h;have h:=h2;clear h2;split at h
  ·rename_i x t I;obtain⟨z,hz,hl⟩:=IR (G:=G) (ty:=o.type) hS.rows h;refine⟨_,hz,fun X=>?_,fun X=>fW fun h=>by grind⟩;have F:=ab.1 X;have Z:=Y F;simp only[bO]at Z;obtain⟨u,t',e1,e2,rfl⟩:=Z;obtain⟨v,hv,T⟩:=hl F u e2;have ea:c.args.map a.eval=#[u]:=Array.toList_inj.1 (by simp_all);have et:c.argTypes=#[t]:=Array.toList_inj.1 (by omega);refine⟨v,gT F hv,fun w O=>?_⟩;unfold Oper.quietAt;have:(execOp a.eval o).run P w=.ok (.value v) w:=by simp[execOp,ho,resolve,hc,invoke,builtin,ea,et,T w (aa w O).2]
   rw[this];exact⟨rfl,rfl⟩
  ·grind
  ·grind
  ·grind
  ·rename_i x y t t' I;obtain⟨z,hz,hl⟩:=JP (P:=P) (S:=S) (w:=w1) (H:=H) (G:=G) (tys:=c.argTypes) (ty:=o.type) h;refine⟨_,hz,fun X=>?_,fun X=>fW fun h=>by grind⟩
   ·have F:=ab.1 X;have Z:=Y F;simp only[bO]at Z;obtain⟨us,t1,e1,e2,ux,t2,rfl,e3,rfl⟩:=Z;obtain⟨v,hv,T⟩:=hl F us ux e2 e3;have ea:c.args.map a.eval=#[us,ux]:=Array.toList_inj.1 (by simp_all);refine⟨v,gT F hv,fun w O=>?_⟩;unfold Oper.quietAt;have:(execOp a.eval o).run P w=.ok (.value v) w:=by simp_all[execOp,resolve,invoke,builtin]
    rw[this];exact⟨rfl,rfl⟩
  ·rename_i x y t t' I;obtain⟨z,hz,hl⟩:=It (P:=P) (S:=S) (w:=w1) (H:=H) (G:=G) (tys:=c.argTypes) (ty:=o.type) h;refine⟨_,hz,fun X=>?_,fun X=>fW fun h=>by grind⟩
   ·have F:=ab.1 X;have Z:=Y F;simp only[bO]at Z;obtain⟨us,t1,e1,e2,ux,t2,rfl,e3,rfl⟩:=Z;obtain⟨v,hv,T⟩:=hl F us ux e2 e3;have ea:c.args.map a.eval=#[us,ux]:=Array.toList_inj.1 (by simp_all);refine⟨v,gT F hv,fun w O=>?_⟩;unfold Oper.quietAt;have:(execOp a.eval o).run P w=.ok (.value v) w:=by simp_all[execOp,resolve,invoke,builtin]
    rw[this];exact⟨rfl,rfl⟩
  grind
 ·rename_i f hc;obtain⟨yf,h2,hf⟩:=bB (S:=S) (w:=w1) h;clear h;have h:=h2;clear h2;split at h
  ·rename_i g ai ag ah;by_cases af:nl=true
   ·grind
   rw[if_neg af]at h;obtain⟨ys,h2,Y⟩:=qC hF c.args.toList (fun x hx=>hn▸hb x (by grind)) h;clear h;obtain⟨al,h⟩:=h2;have ak:=fun hg=>DJ ah (hf hg _ (dN hF (hn▸hb f (by grind))))
   have I:gt G->∃first E:Array Value,a.eval f=.func (.func g) first E/\bO S w1 (ai++ys++ag) (first++c.args.map a.eval++E).toList:=fun hg=>by obtain⟨first,E,h1,h2,h3⟩:=ak hg;refine⟨first,E,h1,?_⟩;simp_all[gG]
   split at h
   ·grind
   ·obtain⟨r,hq,hk⟩:=h;by_cases F:gt G
    ·rcases hq F with hq|⟨x,rfl,am⟩
     ·obtain⟨v,ad⟩:=hq.val;rw[PW (by grind)]at hk;refine⟨_,hk,fun X=>?_,fun X=>fW fun h=>by grind⟩;obtain⟨first,E,aj,ae⟩:=I F;have ac:∀w,(execOp a.eval o).run P w=.ok (.enter g (first++c.args.map a.eval++E)) w:=fun w=>by
       simp only[execOp,ho];rw[qS hc aj]
       grind[invoke,uZ]
      have hv:=(hq.calls ad hS ae).1;refine⟨v,gT F (hv S w1),fun w O=>?_⟩;have J:=(hq.calls ad (aa w O).1 (eU S.le_refl (aa w O).2.kept _ _ ae)).2;unfold Oper.quietAt;rw[ac];refine⟨rfl,?_⟩;rw[Array.toArray_toList]at J;exact J
     ·exact hk.elim
    ·obtain⟨z,hk⟩:=QL hk
     grind[fW]
  grind
 grind
def Cu{o:Oper}{w1:World}{CC:World->Prop}(F:∀w,CC w->St S w H/\Agree S H w1 w)(X:∀o∈ops,mA n o=true)(Y:St S w1 H)(O:FR S w1 ρ a)(T:a.tmps.size=n)(hb:mA n o=true)(h:aop P (bK P) (eV P) mt true ops o ρ H K):
   ∃z,K (upd ρ o.dst z) H/\(Region.wanted o (yielded ops a.tmps)=true->∃v,rep S w1 z v/\∀w,CC w->o.quietAt P a (Rw w) w v)/\(Region.wanted o (yielded ops a.tmps)=false->rep S w1 z undef):=by
 obtain⟨E,_⟩:=AM hb;unfold aop at h;obtain⟨G,Z,I⟩:=Ad X O T h;clear h;have h:=Z;clear Z;split at h
 . rename_i x J;unfold EI at h;split at h
   . grind
   . exact zY F Y O T E I (by rw[J];exact h)
 . grind
 . grind
 . grind
 . grind
 . rename_i c J;exact Tp F Y O T J E I h
 all_goals first
   | exact h.elim
   | (simp at h;done)
   | (rename_i J; split at h
      . simp at h;done
      . exact zY F Y O T E I (by rw[J];exact h))
   | (rename_i J; split at h
      . obtain⟨rfl,h⟩:=h;rw[if_pos rfl]at h;obtain⟨z,hz,v,hv,hq⟩:=Hg (S:=S) (w1:=w1) O (fun x hx=>T▸E x hx) J h;exact⟨z,hz,fun _=>⟨v,hv,fun w _=>by unfold Oper.quietAt;rw[hq w];exact⟨rfl,rfl⟩⟩,fun hw=>by grind[dY]⟩
      . exact zY F Y O T E I (by grind))
   | (rename_i J;exact zY F Y O T E I (by rw[J];exact h))
def SD{o:Oper}{w1:World}{CC:World->Prop}(I:∀w,CC w->St S w bQ/\Agree S bQ w1 w)(hS:St S w1 H)(Z:FR S w1 ρ a)(hn:a.tmps.size=n){t:TypeId}{x:Operand}{lo hi m:Option Operand}(J:o.op=.slice t x lo hi m)(O:∀x∈o.op.operands,opB n x=true){G:Option Bool}
  (E:Region.wanted o (yielded ops a.tmps)=true↔gt G) (h:jG P G ρ H o.op fun x=>K (upd ρ o.dst (wr G x)) H):
  ∃z,K (upd ρ o.dst z) H/\(Region.wanted o (yielded ops a.tmps)=true->∃v,rep S w1 z v/\∀w,CC w->o.quietAt P a (Rw w) w v)/\(Region.wanted o (yielded ops a.tmps)=false->rep S w1 z undef):=by
 rw[J]at O h;obtain⟨z,T,hg⟩:=EC (H':=bQ) (hn▸O) Z hS.rows h;refine⟨_,T,fun F=>?_,fun F=>?_⟩
 ·obtain⟨v,hv,X⟩:=hg (E.1 F);refine⟨v,gT (E.1 F) hv,fun w Y=>?_⟩;unfold Oper.quietAt;rw[X w (I w Y).2 o J];exact⟨rfl,rfl⟩
 grind[fW]
def Ve{o:Oper}{w1:World}{CC:World->Prop}(I:∀w,CC w->St S w bQ/\Agree S bQ w1 w)(F:∀o∈ops,mA n o=true)(hS:St S w1 H)(T:FR S w1 ρ a)(X:a.tmps.size=n)(Z:mA n o=true){K:Env->Prop}(h:aop P (bK P) (eV P) mt true ops o ρ (qH o H) fun E _=>K E):
  ∃z,K (upd ρ o.dst z)/\(Region.wanted o (yielded ops a.tmps)=true->∃v,rep S w1 z v/\∀w,CC w->o.quietAt P a (Rw w) w v)/\(Region.wanted o (yielded ops a.tmps)=false->rep S w1 z undef):=by
 by_cases hs:∃t x lo hi m,o.op=.slice t x lo hi m
 ·obtain⟨t,x,lo,hi,m,Y⟩:=hs;have e:qH o H=H:=by grind[qH]
  rw[e]at h;obtain⟨J,_⟩:=AM Z;unfold aop at h;obtain⟨G,h2,O⟩:=Ad F T X h;clear h;rw[Y]at h2;exact SD (K:=fun E _=>K E) I hS T X Y J O (by grind)
 ·have e : qH o H = bQ := by
   unfold qH;split
   ·grind
   ·rfl
  rw[e]at h;exact Cu (K:=fun E _=>K E) I F (hS.drop fun k r hk=>by grind[bQ]) T X Z h
def Mj{Q':Exit->Act->World->Prop}{wb:World}{Sb:Sg}{Hb:aG}(E:∀o∈ops,mA n o=true)(hQ:∀ρ H a w,K ρ H->Rel n Sb wb Hb ρ H a w->Q' .normal a w):
  ∀(l:List Oper) (k:Nat) (listed:Array Bool) (ρ:Env) (H:aG) (a:Act) (w:World),(∀j,l[j]?=ops[k+j]?)->(∀o∈l,mA n o=true)->Region.seqB .any ops l.length k listed=true ->
   yU P (bK P) (eV P) mt false ops K l ρ H->Rel n Sb wb Hb ρ H a w->mK P .any ops (Cb Sb wb) Rw Q' l.length listed a w
 | [],_,_,ρ,H,a,w,_,_,hB,h,hR=>⟨by grind[Region.seqB],hQ ρ H a w h hR⟩
 | o::rest,k,listed,ρ,H,a,w,hl,hb,hB,h,hR=>by
  have h0:ops[k]?=some o:=by simpa using(hl 0).symm
  simp only[List.length_cons,Region.seqB,Bool.and_eq_true,decide_eq_true_eq]at hB;refine⟨by grind,fun i hi=>?_⟩;rw[hB.1]at hi;have X:i=k:=by grind
  subst X;obtain⟨S,hS,hF,hG,hN,hd,hn⟩:=hR;have he:=CR (K':=fun I w'=>I.defers=[]/\Cb Sb wb w'/\∀J,Rw w' J->mK P .any ops (Cb Sb wb) Rw Q' rest.length (listed.setIfInBounds i true) I J) (Q':=fun _ _ _=>False) E hS hF hG hN hd hn (hb o (by simp))
   (fun T H' I w' F Y=>by
    refine⟨?_,?_,fun J h2=>Mj E hQ rest (i+1) _ T H' I J (fun j=>by have:=hl (j+1);grind) (fun o ho=>hb o (by grind)) hB.2 F (Y.rw h2)⟩
    ·obtain⟨S',_,_,_,_,aa,_⟩:=Y;omega
    ·obtain⟨S',_,_,Z,_⟩:=Y;exact Z.cb) h
  unfold gOp;simp only[h0];by_cases O:Region.wanted o (yielded ops a.tmps)=true
  ·rw[if_pos O];exact yR (fun v w' F=>F.2) (FF (fun a w F=>F.1) (he.1 O))
  ·rw[if_neg O];exact(he.2 (by grind)).2
def I3{Q':Exit->Act->World->Prop}{wb:World}{Sb:Sg}(F:∀o∈ops,mA n o=true)(hs:Region.noSelect ops=true)(I:St Sb wb bQ){g:Nat}
  (hK:∀ρ a E w,K ρ bQ->Rw wb w->FR Sb wb ρ a->a.defers=[]->a.tmps.size=n->∀k,Region.seqB .any ops g k E=true->k=ops.size-g->mK P .any ops (Cb Sb wb) Rw Q' g E a w):
  ∀(l:List Oper) (k:Nat) (E:Array Bool) (ρ:Env) (a:Act),(∀j,j<l.length->l[j]?=ops[k+j]?)->k+l.length=ops.size-g->(∀o∈l,mA n o=true)->Region.lexHead .any ops g l.length k E=true ->
   yU P (bK P) (eV P) mt true ops K l ρ bQ->FR Sb wb ρ a->a.defers=[]->a.tmps.size=n->∀w,Rw wb w->mK P .any ops (Cb Sb wb) Rw Q' (l.length+g) E a w
 | [],k,E,ρ,a,_,hk,_,hB,h,hF,hd,hn,w,hC=>by rw[List.length_nil,Nat.zero_add];exact hK ρ a E w h hC hF hd hn k hB (by omega)
 | o::rest,k,E,ρ,a,hl,hk,hb,hB,h,hF,hd,hn,w,hC=>by
  have h0:ops[k]?=some o:=by simpa using(hl 0 (by simp)).symm
  simp only[List.length_cons,Region.lexHead,Bool.and_eq_true]at hB;obtain⟨⟨T,hf⟩,Y⟩:=hB;obtain⟨z,hz,h1,h2⟩:=Cu (CC:=Cb Sb wb) (fun w J=>⟨J.st I,J.agree I⟩) F I hF hn (hb o (by simp)) h;have next:∀v,rep Sb wb z v->∀X,Rw w X->mK P .any ops (Cb Sb wb) Rw Q' (rest.length+g) (E.setIfInBounds k true) (a.put o.dst v) X:=fun v Z X h2=>I3 F hs I hK rest (k+1) _ _ _ (fun j hj=>by simp_all;grind) (by grind) (fun o ho=>hb o (by grind)) Y hz (FR.put hF Z) (by grind[sU]) (by grind[B4]) X (hC.trans h2)
  rw[List.length_cons,show rest.length+1+g=(rest.length+g)+1 by omega];by_cases hw:Region.wanted o (yielded ops a.tmps)=true
  ·obtain⟨v,Z,hq⟩:=h1 hw;exact oL h0 (Region.noSelect_spec hs) Rw.refl (fun _ _ _=>Rw.trans) (fun _ _ J T=>J.rw I T) _ E a w (hC.cb I) (Region.free_spec h0 hf) (by grind) (.inl ⟨hw,hq⟩) (next v Z)
  ·have O:Region.wanted o (yielded ops a.tmps)=false:=by grind
   exact oL h0 (Region.noSelect_spec hs) Rw.refl (fun _ _ _=>Rw.trans) (fun _ _ J T=>J.rw I T) _ E a w (hC.cb I) (Region.free_spec h0 hf) (by grind) (.inr ⟨O,rfl⟩) (next _ (h2 O))
def Uw{Q':Exit->Act->World->Prop}{id m:Nat}(hm:P.follows .mixedOrders=true)(E:∀o∈ops,mA n o=true)(hB:XK ops m=true)
  (h:yU P (bK P) (eV P) mt true ops (fun F _=>yU P (bK P) (eV P) mt false ops K (ops.toList.drop m) F H) (ops.toList.take m) ρ bQ)
  (hR:Rel n S0 w0 H0 ρ H a w) (hQ:∀ρ H a w,K ρ H->Rel n S0 w0 H0 ρ H a w->Q' .normal a w):(Code.region id ops true).wp P Q' a w:=by
 obtain⟨S,hS,hF,hG,hN,hd,hn⟩:=hR;simp only[XK,Bool.and_eq_true,decide_eq_true_eq]at hB;obtain⟨⟨hs,ak⟩,ag⟩:=hB
 let w1:World:={ w with drawn:=w.drawn+1 }
 have I:St S w1 H:=hS.after (Nat.le_refl _) fun _ _=>rfl
 have Z:Grow S w S w1:=hS.grow rfl rfl rfl (Nat.le_refl _) fun _ _=>rfl
 have ab:FR S w1 ρ a:=hF.keep S.le_refl (Z.kept hS);have aa:St S w1 bQ:=I.drop fun k r hk=>by grind[bQ]
 refine wp_region_any hm (zW (C:=Cb S w1) (R:=Rw) Rw.refl _ _ _ _ ?_);have aj:(ops.toList.take m).length=m:=by grind
 have:=I3 (Q':=Q') (g:=ops.size-m) (wb:=w1) (Sb:=S) E hs aa (K:=fun F _=>yU P (bK P) (eV P) mt false ops K (ops.toList.drop m) F H) (fun F a' J w' hk Y T O X k ah ai=>by
  have ae:k=m:=by omega
  subst ae;have hx:=Mj (Q':=Q') (wb:=w1) (Sb:=S) (Hb:=H) E (K:=K) (fun ρ H a w hk hr=>by
   obtain⟨S',af,T,ad,ac,O,X⟩:=hr;exact hQ ρ H a w hk ⟨S',af,T,hG.trans (Z.trans ad),hN.trans ac hG.le.N,O,X⟩) (ops.toList.drop k) k J F H a' w' (fun j=>by simp) (fun o ho=>E o (Array.mem_toList_iff.1 (List.mem_of_mem_drop ho)))
   (by grind) hk ?_
  ·grind
  ·have hg:=I.grow Y.1 Y.2.1 Y.2.2.1 Y.2.2.2.1 Y.2.2.2.2;exact⟨S,I.after Y.2.2.2.1 Y.2.2.2.2,T.keep S.le_refl (hg.kept I),hg,gY.refl _ _,O,X⟩) (ops.toList.take m) 0 (Array.replicate ops.size false) ρ a (fun j hj=>by grind) (by omega) (fun o ho=>E o (Array.mem_toList_iff.1 (List.mem_of_mem_take ho))) (by grind) h ab hd hn w1 (Rw.refl w1)
 grind
def BA{C F:World->Prop}{R:World->World->Prop}{Q':Exit->Act->World->Prop}(h:∀w,F w->C w):∀(f:Nat) (listed:Array Bool) (a:Act) (w:World),mK P .any ops F R Q' f listed a w->mK P .any ops C R Q' f listed a w
 | 0,_,_,_,hw=>hw
 | f+1,_,_,_,hw=>⟨hw.1,fun i O=>Kz (fun T w' E=>⟨h w' E.1,fun J I=>BA h f _ _ _ (E.2 J I)⟩) (hw.2 i O)⟩
def Cb.mono{S S':Sg}{w w' I:World}{H:aG}(J:St S w H)(E:Grow S w S' w')(h:Cb S' w' I):Cb S w I:=
 ⟨h.1.trans E.os,h.2.1.trans E.tape,h.2.2.1.trans E.output,Nat.le_trans E.size h.2.2.2.1,fun k F=>(h.2.2.2.2 k (E.fz k F)).trans (E.same k F)⟩
def BL{Q':Exit->Act->World->Prop}(E:∀o∈ops,mA n o=true)(F:Region.noSelect ops=true)(hQ:∀ρ H a w,K ρ H->Rel n S0 w0 H0 ρ H a w->Q' .normal a w):
  ∀(f:List (Nat×Bool)) (listed:Array Bool) (ρ:Env) (H:aG) (a:Act) (w:World) (S:Sg),tJ ops f listed=true ->
   Bj P (bK P) (eV P) mt ops K f ρ H->St S w H->FR S w ρ a->Grow S0 w0 S w->gY S0.N H0 H->a.defers=[]->a.tmps.size=n->∀J,Rw w J->mK P .any ops (Cb S w) Rw Q' f.length listed a J
 | [],listed,ρ,H,a,w,S,hB,h,hS,hF,hG,hN,hd,hn,J,h2=>by refine⟨by grind[tJ],hQ ρ H a J h (Rel.rw ⟨S,hS,hF,hG,hN,hd,hn⟩ h2)⟩
 | (k,true)::f,listed,ρ,H,a,w,S,hB,h,hS,hF,hG,hN,hd,hn,J,h2=>by
  simp only[tJ,Bool.and_eq_true]at hB;obtain⟨⟨hr,hf⟩,ad⟩:=hB;unfold Bj at h;split at h
  ·rename_i o h0;rw[if_pos rfl]at h;have O:=E o (Array.mem_of_getElem? h0);obtain⟨z,hz,h1,Y⟩:=Ve (CC:=Cb S w) (K:=fun T=>Bj P (bK P) (eV P) mt ops K f T H) (fun w hc=>⟨hc.st hS,hc.agree hS⟩) E hS hF hn O h;have next:∀v,rep S w z v->∀I,Rw w I->mK P .any ops (Cb S w) Rw Q' f.length (listed.setIfInBounds k true) (a.put o.dst v) I:=fun v hv I Y=>BL E F hQ f _ _ H _ w S ad hz hS (FR.put hF hv) hG hN (by grind[sU]) (by grind[B4]) I Y
   rw[List.length_cons];by_cases Z:Region.wanted o (yielded ops a.tmps)=true
   ·obtain⟨v,hv,hq⟩:=h1 Z;exact oL h0 (Region.noSelect_spec F) Rw.refl (fun _ _ _=>Rw.trans) (fun _ _ hc hr=>hc.rw hS hr) _ listed a J (h2.cb hS) (Region.free_spec h0 hf) (by grind) (.inl ⟨Z,hq⟩) (fun I Y=>next v hv I (h2.trans Y))
   ·have ac:Region.wanted o (yielded ops a.tmps)=false:=by grind
    exact oL h0 (Region.noSelect_spec F) Rw.refl (fun _ _ _=>Rw.trans) (fun _ _ hc hr=>hc.rw hS hr) _ listed a J (h2.cb hS) (Region.free_spec h0 hf) (by grind) (.inr ⟨ac,rfl⟩) (fun I ae=>next _ (Y ac) I (h2.trans ae))
  grind
 | (k,false)::f,listed,ρ,H,a,w,S,hB,h,hS,hF,hG,hN,hd,hn,J,h2=>by
  simp only[tJ,Bool.and_eq_true,decide_eq_true_eq]at hB;unfold Bj at h;split at h
  ·rename_i o h0;rw[if_neg (by simp)]at h;have O:=E o (Array.mem_of_getElem? h0);rw[List.length_cons];refine⟨by grind,fun i hi=>?_⟩;rw[hB.1]at hi;have ah:i=k:=by grind
   subst ah;have aa:=hS.grow h2.1 h2.2.1 h2.2.2.1 h2.2.2.2.1 h2.2.2.2.2;have aj:St S J H:=hS.after h2.2.2.2.1 h2.2.2.2.2;have af:FR S J ρ a:=hF.keep S.le_refl (aa.kept hS);have he:=CR (S0:=S) (w0:=J) (H0:=H) (K:=Bj P (bK P) (eV P) mt ops K f) (K':=fun a' w'=>a'.defers=[]/\Cb S w w'/\∀I,Rw w' I->mK P .any ops (Cb S w) Rw Q' f.length (listed.setIfInBounds i true) a' I) (Q':=fun _ _ _=>False) E aj af (Grow.refl S J) (gY.refl _ _) hd hn O
    (fun T H' a' w' hk hr=>by obtain⟨S',am,ag,al,ai,ab,ak⟩:=hr;have X:Grow S w S' w':=aa.trans al;refine⟨ab,X.cb,fun I Y=>?_⟩;refine BA (fun x hx=>Cb.mono hS X hx) _ _ _ _ (BL E F hQ f _ T H' a' w' S' hB.2 hk am ag (hG.trans X) (hN.trans ai hG.le.N) ab ak I Y)) h
   unfold gOp;simp only[h0];by_cases Z:Region.wanted o (yielded ops a.tmps)=true
   ·rw[if_pos Z];exact yR (fun v w' hk=>hk.2) (FF (fun a w hk=>hk.1) (he.1 Z))
   ·rw[if_neg Z];exact(he.2 (by grind)).2
  grind
def ZM{Q':Exit->Act->World->Prop}{id:Nat}{f:List (Nat×Bool)}(hm:P.follows .mixedOrders=true)(F:∀o∈ops,mA n o=true)(X:UU ops f=true)
  (h:Bj P (bK P) (eV P) mt ops K f ρ H)
  (hR:Rel n S0 w0 H0 ρ H a w) (hQ:∀ρ H a w,K ρ H->Rel n S0 w0 H0 ρ H a w->Q' .normal a w):(Code.region id ops true).wp P Q' a w:=by
 obtain⟨S,T,hF,hG,Z,hd,hn⟩:=hR;simp only[UU,Bool.and_eq_true,decide_eq_true_eq]at X;obtain⟨⟨hs,Y⟩,E⟩:=X
 let w1:World:={ w with drawn:=w.drawn+1 }
 have J:St S w1 H:=T.after (Nat.le_refl _) fun _ _=>rfl
 have I:Grow S w S w1:=T.grow rfl rfl rfl (Nat.le_refl _) fun _ _=>rfl
 have O:FR S w1 ρ a:=hF.keep S.le_refl (I.kept T);refine wp_region_any hm (zW (C:=Cb S w1) (R:=Rw) Rw.refl _ _ _ _ ?_);have:=BL (Q':=Q') F hs hQ f (Array.replicate ops.size false) ρ H a w1 S E h J O (hG.trans I) Z hd hn w1 (Rw.refl w1)
 grind
structure Pin(S:Sg)(w:World)(Hp:aG):Prop where
 rows:BG S w Hp
 fz:∀k r,Hp k=some r->∀g,blk (S.loc k)=some g->S.fz g/\¬S.ro g
 disj:∀k k' r r',Hp k=some r->Hp k'=some r'->k≠k'->∀g,blk (S.loc k)=some g->blk (S.loc k')≠some g
def arT(S:Sg)(Hp:aG)(g:Nat):Prop:=∃k r,Hp k=some r/\blk (S.loc k)=some g
def Sg.unpin(S:Sg)(Hp:aG):Sg:={ S with fz:=fun g=>S.fz g/\¬arT S Hp g }
def Sg.pin(S:Sg)(Hp:aG):Sg:={ S with fz:=fun g=>S.fz g\/arT S Hp g }
def Sg.le_unpin(S:Sg)(Hp:aG):S.le (S.unpin Hp):=⟨fun _ h=>h,Nat.le_refl _,fun _ _=>rfl,fun _ _=>rfl⟩
def Sg.unpin_le(S:Sg)(Hp:aG):(S.unpin Hp).le S:=⟨fun _ h=>h,Nat.le_refl _,fun _ _=>rfl,fun _ _=>rfl⟩
def Sg.le_pin(S:Sg)(Hp:aG):S.le (S.pin Hp):=⟨fun _ h=>h,Nat.le_refl _,fun _ _=>rfl,fun _ _=>rfl⟩
theorem Pin.merge{Hp Z:aG}(h:Pin S w Hp)(J:St S w H)(X:∀k r,Z k=some r->H k=some r\/Hp k=some r):St (S.unpin Hp) w Z:=by
 have hr:∀k r,Z k=some r->RowOK S w k r:=fun k r E=>by
  rcases X k r E with h1|h1
  ·exact J.rows k r h1
  ·exact h.rows k r h1
 refine⟨fun k E=>⟨J.ro_fz k E,fun⟨i,r,hi,F⟩=>(h.fz i r hi k F).2 E⟩,fun k E=>J.fz_lt k E.1,fun k r E=>(hr k r E).keep (S.le_unpin Hp) (iL.refl S w) (fun _ _=>rfl),fun k r E g F hf=>?_,fun k k' r r' E Y T g F I=>?_,J.tabs⟩
 ·rcases X k r E with h1|h1
  ·exact J.free k r h1 g F hf.1
  ·exact hf.2 ⟨k,r,h1,F⟩
 ·rcases X k r E with h1|h1 <;> rcases X k' r' Y with O|O
  ·exact J.disj k k' r r' h1 O T g F I
  ·exact J.free k r h1 g F (h.fz k' r' O g I).1
  ·exact J.free k' r' O g I (h.fz k r h1 g F).1
  ·exact h.disj k k' r r' h1 O T g F I
def Pin.keep{Hp:aG}{S':Sg}{w':World}(h:Pin S w Hp)(Y:St S w H)(F:Grow S w S' w'):Pin S' w' Hp:=by
 refine⟨fun k r E=>(h.rows k r E).keep F.le (F.kept Y) (fun g I=>F.same g (h.fz k r E g I).1),fun k r E g I=>?_,fun k k' r r' E J T g I=>?_⟩
 ·rw[F.le.loc k (h.rows k r E).lt]at I;have h1:=h.fz k r E g I;refine⟨F.fz g h1.1,fun X=>?_⟩;rcases F.newro g X with O|O
  ·exact h1.2 O
  ·exact O h1.1
 ·rw[F.le.loc k (h.rows k r E).lt]at I;rw[F.le.loc k' (h.rows k' r' J).lt];exact h.disj k k' r r' E J T g I
def Cb.pin{wb w:World}{H Hp:aG}(F:St S wb H)(I:Pin S wb Hp)(h:Cb S wb w):St (S.unpin Hp) w Hp/\Agree (S.unpin Hp) Hp wb w:=by have O:Grow S wb S w:=⟨S.le_refl,fun _ h=>h,h.1,h.2.1,h.2.2.1,h.2.2.2.1,h.2.2.2.2,fun _ h=>.inl h⟩;exact⟨(I.keep F O).merge (h.st F) (fun k r E=>.inr E),⟨fun k E=>h.2.2.2.2 k (F.ro_fz k E),fun k r E g J=>h.2.2.2.2 g (I.fz k r E g J).1⟩⟩
def vE{Q':Exit->Act->World->Prop}{Hp:aG}(O:∀o∈ops,mA n o=true){i m:Nat}{o:Oper}{E:Array Bool}{K1:Env->aG->Prop}(h0:ops[i]?=some o)(h:aop P (bK P) (eV P) mt false ops o ρ H K1)
  (hS:St S w H) (hP:Pin S w Hp) (hF:FR S w ρ a) (hd:a.defers=[]) (hn:a.tmps.size=n) {Z:World} (Y:Rw w Z)
  (next:∀J H' F w' S',K1 J H'->St S' w' H'->Pin S' w' Hp->FR S' w' J F->Grow S w S' w'->gY S.N H H'->F.defers=[]->F.tmps.size=n->∀I,Rw w' I->mK P .any ops (Cb S' w') Rw Q' m (E.setIfInBounds i true) F I):
  gOp P ops i (fun F w'=>Cb S w w'/\∀I,Rw w' I->mK P .any ops (Cb S w) Rw Q' m (E.setIfInBounds i true) F I) a Z:=by
 have ad:=O o (Array.mem_of_getElem? h0);have T:=hS.grow Y.1 Y.2.1 Y.2.2.1 Y.2.2.2.1 Y.2.2.2.2;have ab:St S Z H:=hS.after Y.2.2.2.1 Y.2.2.2.2;have ag:Pin S Z Hp:=hP.keep hS T;have ae:FR S Z ρ a:=hF.keep S.le_refl (T.kept hS);have he:=CR (S0:=S) (w0:=Z) (H0:=H) (K:=K1) (K':=fun F w'=>F.defers=[]/\Cb S w w'/\∀I,Rw w' I->mK P .any ops (Cb S w) Rw Q' m (E.setIfInBounds i true) F I) (Q':=fun _ _ _=>False) O ab ae (Grow.refl S Z) (gY.refl _ _) hd hn ad
  (fun J H' F w' hk hr=>by obtain⟨S',aj,af,ac,ah,aa,ai⟩:=hr;have X:Grow S w S' w':=T.trans ac;refine⟨aa,X.cb,fun I h3=>?_⟩;exact BA (fun x hx=>Cb.mono hS X hx) _ _ _ _ (next J H' F w' S' hk aj (ag.keep ab ac) af X ah aa ai I h3)) h
 unfold gOp;simp only[h0];by_cases hw:Region.wanted o (yielded ops a.tmps)=true
 ·rw[if_pos hw];exact yR (fun v w' hk=>hk.2) (FF (fun a w hk=>hk.1) (he.1 hw))
 ·rw[if_neg hw];exact(he.2 (by grind)).2
def sY{q:Bool}{k:Nat}{E:Env->aG->Prop}(h:CW P (bK P) (eV P) mt q ops k ρ H E):∃o,ops[k]?=some o/\aop P (bK P) (eV P) mt q ops o ρ H E:=by grind[CW]
def kS{Q':Exit->Act->World->Prop}{Hp:aG}(E:∀o∈ops,mA n o=true)(F:Region.noSelect ops=true)
  (hQ:∀ρ H a w S,K ρ H->St S w H->Pin S w Hp->FR S w ρ a->Grow S0 w0 S w->gY S0.N H0 H->a.defers=[]->a.tmps.size=n->Q' .normal a w):
  ∀(t:Mx) (m:Nat) (listed:Array Bool) (ρ:Env) (H:aG) (a:Act) (w:World) (S:Sg),gA ops t m listed=true ->
   nJ P (bK P) (eV P) mt ops K Hp t ρ H->St S w H->Pin S w Hp->FR S w ρ a->Grow S0 w0 S w->gY S0.N H0 H->a.defers=[]->a.tmps.size=n->∀w2,Rw w w2->mK P .any ops (Cb S w) Rw Q' m listed a w2
 | .nil,m,listed,ρ,H,a,w,S,hB,h,hS,hP,hF,hG,hN,hd,hn,w2,h2=>by
  cases m with
  | succ m=>grind[gA]
  | zero=>have hg:=hS.grow h2.1 h2.2.1 h2.2.2.1 h2.2.2.2.1 h2.2.2.2.2;exact⟨by grind[gA],hQ ρ H a w2 S h (hS.after h2.2.2.2.1 h2.2.2.2.2) (hP.keep hS hg) (hF.keep S.le_refl (hg.kept hS)) (hG.trans hg) hN hd hn⟩
 | .q k t,m,listed,ρ,H,a,w,S,hB,h,hS,hP,hF,hG,hN,hd,hn,w2,h2=>by
  cases m with
  | zero=>simp[gA]at hB
  | succ m=>
   simp only[gA,Bool.and_eq_true]at hB;obtain⟨⟨hr,hf⟩,af⟩:=hB;obtain⟨o,h0,h⟩:=sY h;have ae:=E o (Array.mem_of_getElem? h0);obtain⟨z,hz,h1,h3⟩:=Cu (S:=S.unpin Hp) (CC:=Cb S w) (K:=fun I _=>nJ P (bK P) (eV P) mt ops K Hp t I H) (fun w hc=>hc.pin hS hP) E (hP.merge hS fun k r hk=>.inr hk) (hF.keep (S.le_unpin Hp) (iL.refl S w)) hn ae h;have next:∀v,rep (S.unpin Hp) w z v->∀w3,Rw w w3->mK P .any ops (Cb S w) Rw Q' m (listed.setIfInBounds k true) (a.put o.dst v) w3:=fun v hv w3 h3=>kS E F hQ t m _ _ H _ w S af hz hS hP (FR.put hF (nV (S.unpin_le Hp) (iL.refl (S.unpin Hp) w) _ _ hv)) hG hN (by grind[sU]) (by grind[B4]) w3 h3
   by_cases hw:Region.wanted o (yielded ops a.tmps)=true
   ·obtain⟨v,hv,hq⟩:=h1 hw;exact oL h0 (Region.noSelect_spec F) Rw.refl (fun _ _ _=>Rw.trans) (fun _ _ hc hr=>hc.rw hS hr) _ listed a w2 (h2.cb hS) (Region.free_spec h0 hf) (by grind) (.inl ⟨hw,hq⟩) (fun w3 h3=>next v hv w3 (h2.trans h3))
   ·have ad:Region.wanted o (yielded ops a.tmps)=false:=by grind
    exact oL h0 (Region.noSelect_spec F) Rw.refl (fun _ _ _=>Rw.trans) (fun _ _ hc hr=>hc.rw hS hr) _ listed a w2 (h2.cb hS) (Region.free_spec h0 hf) (by grind) (.inr ⟨ad,rfl⟩) (fun w3 ag=>next _ (h3 ad) w3 (h2.trans ag))
 | .a1 k t,m,listed,ρ,H,a,w,S,hB,h,hS,hP,hF,hG,hN,hd,hn,w2,h2=>by
  cases m with
  | zero=>simp[gA]at hB
  | succ m=>simp only[gA,Bool.and_eq_true,decide_eq_true_eq]at hB;obtain⟨o,h0,g⟩:=sY h;refine⟨by grind,fun i hi=>?_⟩;rw[hB.1]at hi;simp only[List.mem_cons,List.not_mem_nil,or_false]at hi;subst hi;exact vE E h0 g hS hP hF hd hn h2 fun I H' a' w' S' hk aa O T Z X J Y w3 h3=>kS E F hQ t m _ I H' a' w' S' hB.2 hk aa O T (hG.trans Z) (hN.trans X hG.le.N) J Y w3 h3
 | .a2 k t k' t',m,listed,ρ,H,a,w,S,hB,h,hS,hP,hF,hG,hN,hd,hn,w2,h2=>by
  cases m with
  | zero=>simp[gA]at hB
  | succ m=>
   simp only[gA,Bool.and_eq_true,decide_eq_true_eq]at hB;obtain⟨h,h'⟩:=h;obtain⟨o,h0,g⟩:=sY h;obtain⟨o',ab,g'⟩:=sY h';refine⟨by grind,fun i hi=>?_⟩;rw[hB.1.1]at hi;simp only[List.mem_cons,List.not_mem_nil,or_false]at hi;rcases hi with rfl|rfl
   ·exact vE E h0 g hS hP hF hd hn h2 fun I H' a' w' S' hk aa O T Z X J Y w3 h3=>kS E F hQ t m _ I H' a' w' S' hB.1.2 hk aa O T (hG.trans Z) (hN.trans X hG.le.N) J Y w3 h3
   ·exact vE E ab g' hS hP hF hd hn h2 fun I H' a' w' S' hk aa O T Z X J Y w3 h3=>kS E F hQ t' m _ I H' a' w' S' hB.2 hk aa O T (hG.trans Z) (hN.trans X hG.le.N) J Y w3 h3
 | .a3 k t k' t' k'' t'',m,listed,ρ,H,a,w,S,hB,h,hS,hP,hF,hG,hN,hd,hn,w2,h2=>by
  cases m with
  | zero=>simp[gA]at hB
  | succ m=>
   simp only[gA,Bool.and_eq_true,decide_eq_true_eq]at hB;obtain⟨h,h',ah⟩:=h;obtain⟨o,h0,g⟩:=sY h;obtain⟨o',ab,g'⟩:=sY h';obtain⟨aj,ac,ai⟩:=sY ah;refine⟨by grind,fun i hi=>?_⟩;rw[hB.1.1.1]at hi;simp only[List.mem_cons,List.not_mem_nil,or_false]at hi;rcases hi with rfl|rfl|rfl
   ·exact vE E h0 g hS hP hF hd hn h2 fun I H' a' w' S' hk aa O T Z X J Y w3 h3=>kS E F hQ t m _ I H' a' w' S' hB.1.1.2 hk aa O T (hG.trans Z) (hN.trans X hG.le.N) J Y w3 h3
   ·exact vE E ab g' hS hP hF hd hn h2 fun I H' a' w' S' hk aa O T Z X J Y w3 h3=>kS E F hQ t' m _ I H' a' w' S' hB.1.2 hk aa O T (hG.trans Z) (hN.trans X hG.le.N) J Y w3 h3
   ·exact vE E ac ai hS hP hF hd hn h2 fun I H' a' w' S' hk aa O T Z X J Y w3 h3=>kS E F hQ t'' m _ I H' a' w' S' hB.2 hk aa O T (hG.trans Z) (hN.trans X hG.le.N) J Y w3 h3
def U0{Q':Exit->Act->World->Prop}{id:Nat}{l:List Nat}{t:Mx}(hm:P.follows .mixedOrders=true)(ac:∀o∈ops,mA n o=true)(hl:∀k,k∈l->(H k).isSome=true)(hB:Gk ops t=true)
  (h:∀Hp T:aG,(∀k,k∈l->Hp k=H k)->(∀k,k∉l->T k=H k)->(∀k,k∉l->Hp k=none)->(∀k,k∈l->T k=none)->nJ P (bK P) (eV P) mt ops (sS l H K) Hp t ρ T)
  (hR:Rel n S0 w0 H0 ρ H a w) (hQ:∀ρ H a w,K ρ H->Rel n S0 w0 H0 ρ H a w->Q' .normal a w):(Code.region id ops true).wp P Q' a w:=by
 obtain⟨S,hS,hF,hG,hN,hd,hn⟩:=hR;simp only[Gk,Bool.and_eq_true]at hB;obtain⟨hs,af⟩:=hB
 let Hp:aG:=fun k=>if k∈l then H k else none
 let T:aG:=fun k=>if k∈l then none else H k
 have aq:∀k,k∈l->Hp k=H k:=fun k E=>if_pos E
 have av:∀k,k∉l->Hp k=none:=fun k E=>if_neg E
 have an:∀k,k∉l->T k=H k:=fun k E=>if_neg E
 have ah:∀k,k∈l->T k=none:=fun k E=>if_pos E
 have J:∀k r,Hp k=some r->H k=some r/\k∈l:=fun k r E=>by grind
 have O:∀k r,T k=some r->H k=some r/\k∉l:=fun k r E=>by grind
 let w1:World:={ w with drawn:=w.drawn+1 }
 have F:St S w1 H:=hS.after (Nat.le_refl _) fun _ _=>rfl
 have ae:Grow S w S w1:=hS.grow rfl rfl rfl (Nat.le_refl _) fun _ _=>rfl
 have ar:FR S w1 ρ a:=hF.keep S.le_refl (ae.kept hS);have ax:St (S.pin Hp) w1 T:=by
  refine⟨fun k E=>.inl (F.ro_fz k E),fun k E=>?_,fun k r E=>(F.rows k r (O k r E).1).keep (S.le_pin Hp) (iL.refl S w1) (fun _ _=>rfl),fun k r E g X hf=>?_,fun k k' r r' E aa Y g X Z=>F.disj k k' r r' (O k r E).1 (O k' r' aa).1 Y g X Z,F.tabs⟩
  ·rcases E with h1|⟨i,r,hi,X⟩
   ·exact F.fz_lt k h1
   ·exact(F.rows i r (J i r hi).1).block_lt X
  ·rcases hf with h1|⟨i,r',hi,Z⟩
   ·exact F.free k r (O k r E).1 g X h1
   ·exact F.disj k i r r' (O k r E).1 (J i r' hi).1 (fun e=>(O k r E).2 (e▸(J i r' hi).2)) g X Z
 have aw:Pin (S.pin Hp) w1 Hp:=by refine⟨fun k r E=>(F.rows k r (J k r E).1).keep (S.le_pin Hp) (iL.refl S w1) (fun _ _=>rfl),fun k r E g X=>⟨.inr ⟨k,r,E,X⟩,fun h1=>F.free k r (J k r E).1 g X (F.ro_fz g h1)⟩,fun k k' r r' E aa Y g X=>F.disj k k' r r' (J k r E).1 (J k' r' aa).1 Y g X⟩
 refine wp_region_any hm (zW (C:=Cb (S.pin Hp) w1) (R:=Rw) Rw.refl _ _ _ _ ?_);have:=kS (Q':=Q') (Hp:=Hp) (K:=sS l H K) (S0:=S.pin Hp) (w0:=w1) (H0:=T) ac hs (fun ao H' a' w' S' E ay ak au I ad aj am=>by
  have ab:∀k,k∈l->H' k=none:=fun k E=>by obtain⟨r,hr⟩:=Option.isSome_iff_exists.1 (hl k E);exact ad k (hS.rows k r hr).lt (ah k E)
  let Hm:aG:=fun k=>if k∈l then H k else H' k
  have ap:∀k,k∈l->Hm k=H k:=fun k E=>if_pos E
  have ag:∀k,k∉l->Hm k=H' k:=fun k E=>if_neg E
  refine hQ ao Hm a' w' (E ab Hm ap ag) ⟨S'.unpin Hp,ak.merge ay (fun k r E=>?_),au.keep (S'.le_unpin Hp) (iL.refl S' w'),?_,?_,aj,am⟩
  ·grind
  ·refine hG.trans (ae.trans ⟨⟨I.le.ro, I.le.N, I.le.loc, I.le.sz⟩, fun k E => ⟨I.fz k (.inl E), fun ⟨i, r, hi, hb⟩ => by
    have ai:=F.rows i r (J i r hi).1;have e:S'.loc i=S.loc i:=I.le.loc i ai.lt;rw[show(S'.loc i)=S.loc i from e]at hb;exact F.free i r (J i r hi).1 k hb E⟩,I.os,I.tape,I.output,I.size,fun k E=>I.same k (.inl E),fun k E=>by
    rcases I.newro k E with h2|h2
    ·exact .inl h2
    ·exact .inr fun h3=>h2 (.inl h3)⟩)
  ·intro k E h0;have hH:=hN k E h0;by_cases al:k∈l
   ·grind
   ·rw[ag k al];exact ad k (Nat.lt_of_lt_of_le E hG.le.N) (by grind)) t ops.size (Array.replicate ops.size false) ρ T a w1 (S.pin Hp) af (h Hp T aq an av ah) ax aw (ar.keep (S.le_pin Hp) (iL.refl S w1)) (Grow.refl _ _) (gY.refl _ _) hd hn w1 (Rw.refl w1)
 omega
end
end Go.Aw
end
section
namespace Go.Aw
open Go.RowKit
section
variable{P:Program}{n:Nat}{S0:Sg}{w0:World}{H0:aG}{mt:Nat->Bool}{ops:Array Oper}{K:Env->aG->Prop}{ρ:Env}{H:aG}{a:Act}{w:World}{S:Sg}
def JB(E:∀o∈ops,mA n o=true){Q':Exit->Act->World->Prop}(J:∀ρ H a w,K ρ H->Rel n S0 w0 H0 ρ H a w->Q' .normal a w):
  ∀(l:List Oper) (ρ:Env) (H:aG) (a:Act) (w:World),(∀o∈l,mA n o=true)->yU P (bK P) (eV P) mt false ops K l ρ H->Rel n S0 w0 H0 ρ H a w->wpList P ops Q' l a w
 | [],ρ,H,a,w,_,h,hR=>J ρ H a w h hR
 | o::rest,ρ,H,a,w,hl,h,hR=>by
  obtain⟨S,hS,hF,Z,T,hd,hn⟩:=hR;have O:=CR (K':=wpList P ops Q' rest) (Q':=Q') E hS hF Z T hd hn (hl o (by simp))
   (fun I H' a' w' X Y=>JB E J rest I H' a' w' (fun o ho=>hl o (by grind)) X Y) h
  unfold wpList;by_cases F:Region.wanted o (yielded ops a.tmps)=true
  ·rw[if_pos F];exact .inl (O.1 F)
  ·rw[if_neg F];exact O.2 (by grind)
def Cls(S:Sg)(H:aG)(w1 w:World):Prop:=
 w.os=w1.os/\w.tape=w1.tape/\w.output=w1.output/\w1.heap.size<=w.heap.size/\∀k,k<w1.heap.size->w.heap[k]?=w1.heap[k]?
def Cls.st{w1:World}(E:St S w1 H)(h:Cls S H w1 w):St S w H:=E.after h.2.2.2.1 h.2.2.2.2
def Cls.grow{w1:World}(E:St S w1 H)(h:Cls S H w1 w):Grow S w1 S w:=E.grow h.1 h.2.1 h.2.2.1 h.2.2.2.1 h.2.2.2.2
def Cls.agree{w1:World}(E:St S w1 H)(h:Cls S H w1 w):Agree S H w1 w:=
 ⟨(h.grow E).kept E,fun k r F g I=>h.2.2.2.2 g ((E.rows k r F).block_lt I)⟩
def V1{P:Program}{o:Oper}{a:Act}{w w1:World}{v:Value}(E:Cls S H w1 w)(h:o.quietAt P a (Rw w) w v):o.quietAt P a (Cls S H w1) w v:=by
 unfold Oper.quietAt at *;generalize (execOp a.eval o).run P w=r at *;cases r with
 | ok m w'=>
  cases m <;> simp only[Oper.quietUpon]at h |-
  case value u=>exact h
  case skip=>exact h
  case enter f args=>exact⟨h.1,h.2.mono fun e Z ⟨Y,J,O,T,I,X⟩=>⟨Y,J.trans E.1,O.trans E.2.1,T.trans E.2.2.1,Nat.le_trans E.2.2.2.1 I,fun k F=>(X k (Nat.lt_of_lt_of_le F E.2.2.2.1)).trans (E.2.2.2.2 k F)⟩⟩
 | halt x w'=>grind[Oper.quietUpon]
def II{w1:World}(F:∀o∈ops,mA n o=true)(O:St S w1 H):∀(l:List Oper) (ρ:Env) (a:Act),(∀o∈l,mA n o=true)->yU P (bK P) (eV P) mt true ops K l ρ H->FR S w1 ρ a->a.defers=[]->a.tmps.size=n ->
  wpQuiet P ops (Cls S H w1) (fun I=>∃E,K E H/\FR S w1 E I/\I.defers=[]/\I.tmps.size=n) l a
 | [],ρ,a,_,h,hF,hd,hn=>⟨ρ,h,hF,hd,hn⟩
 | o::rest,ρ,a,hl,h,hF,hd,hn=>by
  obtain⟨z,Y,h1,h2⟩:=Cu (CC:=Cls S H w1) (fun w J=>⟨J.st O,J.agree O⟩) F O hF hn (hl o (by simp)) h;have next:∀v,rep S w1 z v->wpQuiet P ops (Cls S H w1) (fun I=>∃E,K E H/\FR S w1 E I/\I.defers=[]/\I.tmps.size=n) rest (a.put o.dst v):=fun v T=>II F O rest _ _ (fun o ho=>hl o (by grind)) Y (FR.put hF T) (by grind[sU]) (by grind[B4])
  unfold wpQuiet;by_cases X:Region.wanted o (yielded ops a.tmps)=true
  ·rw[if_pos X];obtain⟨v,T,Z⟩:=h1 X;exact⟨v,fun w J=>V1 J (Z w J),next v T⟩
  grind
end
def Ac{P:Program}{ops:Array Oper}{C:World->Prop}{Q Q':Act->Prop}(F:∀a,Q a->Q' a):∀(l:List Oper) (a:Act),wpQuiet P ops C Q l a->wpQuiet P ops C Q' l a
 | [],a,h=>F a h
 | o::rest,a,h=>by
  unfold wpQuiet at h |-;split
  ·rename_i E;rw[if_pos E]at h;exact Oper.quiet_mono (fun J I=>Ac F rest J I) h
  ·rename_i E;rw[if_neg E]at h;exact Ac F rest _ h
def BP(n:Nat):Code->Bool
 | .region _ ops _=>ops.all (mA n)
 | .seq a b=>BP n a&&BP n b
 | .cond c a b=>opB n c&&(BP n a&&BP n b)
 | .block _ c=>BP n c
 | .loop c=>BP n c
 | .scope c=>BP n c
 | _=>true
def Y0(n:Nat)(S0:Sg)(w0:World)(H0:aG)(Q:Ex->Env->aG->Prop):Exit->Act->World->Prop
 | .normal,a,w=>∃ρ H,Q .normal ρ H/\Rel n S0 w0 H0 ρ H a w
 | .exit id,a,w=>∃ρ H,Q (.exit id) ρ H/\Rel n S0 w0 H0 ρ H a w
 | .ret,a,w=>∃ρ H,Q .ret ρ H/\Rel n S0 w0 H0 ρ H a w
 | _,_,_=>False
def pZ{P:Program}{n:Nat}{S0:Sg}{w0:World}{H0:aG}{mt:Nat->Bool}(Z:P.follows .mixedOrders=true):∀(c:Code) (Q:Ex->Env->aG->Prop) (ρ:Env) (H:aG) (a:Act) (w:World),BP n c=true ->
  awp P (bK P) (eV P) mt c Q ρ H->Rel n S0 w0 H0 ρ H a w->c.wp P (Y0 n S0 w0 H0 Q) a w
 | .skip,Q,ρ,H,a,w,_,h,E=>wp_skip ⟨ρ,H,h,E⟩
 | .region id ops false,Q,ρ,H,a,w,hb,h,E=>by
  rw[JL]at h;have F:∀o∈ops,mA n o=true:=fun o ho=>Array.all_eq_true_iff_forall_mem.1 hb o ho
  exact wp_region_list (JB F (fun ρ H a w T Y=>⟨ρ,H,T,Y⟩) ops.toList ρ H a w (fun o ho=>F o (Array.mem_toList_iff.1 ho)) h E)
 | .region id ops true,Q,ρ,H,a,w,hb,h,E=>by
  rw[Ry]at h;have F:∀o∈ops,mA n o=true:=fun o ho=>Array.all_eq_true_iff_forall_mem.1 hb o ho
  rcases h with⟨_,ab,h⟩|⟨hB,h⟩|⟨f,hB,h⟩|⟨l,t,hl,hB,h⟩
  ·obtain⟨S,hS,hF,hG,hN,hd,hn⟩:=E
   let w1:World:={ w with drawn:=w.drawn+1 }
   have X:St S w1 H:=hS.after (Nat.le_refl _) fun _ _=>rfl
   have ac:Grow S w S w1:=hS.grow rfl rfl rfl (Nat.le_refl _) fun _ _=>rfl
   have ae:FR S w1 ρ a:=hF.keep S.le_refl (ac.kept hS);refine wp_region_quiet (C:=Cls S H w1) Z ab ⟨rfl,rfl,rfl,Nat.le_refl _,fun _ _=>rfl⟩ ?_;have:=II F X ops.toList ρ a (fun o ho=>F o (Array.mem_toList_iff.1 ho)) h ae hd hn;refine Ac (fun a' ⟨O,T,af,ad,ag⟩ w' hc=>?_) ops.toList a this;exact⟨O,H,T,S,hc.st X,af.keep S.le_refl ((hc.grow X).kept X),hG.trans (ac.trans (hc.grow X)),hN,ad,ag⟩
  ·exact Uw Z F hB h E fun ρ H a w T Y=>⟨ρ,H,T,Y⟩
  ·exact ZM Z F hB h E fun ρ H a w T Y=>⟨ρ,H,T,Y⟩
  ·exact U0 Z F hl hB h E fun ρ H a w T Y=>⟨ρ,H,T,Y⟩
 | .seq c d,Q,ρ,H,a,w,hb,h,E=>by
  simp only[BP,Bool.and_eq_true]at hb;rw[Ys]at h;refine wp_seq (wp_mono (pZ Z c _ ρ H a w hb.1 h E) fun e a' w' J=>?_);cases e <;> simp only[Y0,Exit.then]at J |-
  case normal=>obtain⟨O,H',T,Y⟩:=J;exact pZ Z d Q O H' a' w' hb.2 T Y
  case exit id=>exact J
  case ret=>exact J
 | .cond c x y,Q,ρ,H,a,w,hb,h,E=>by
  simp only[BP,Bool.and_eq_true]at hb;rw[PT]at h;unfold Bb at h;split at h
  ·rename_i t ht;obtain⟨S,hS,hF,hG,hN,hd,hn⟩:=E;have e:=dN hF (x:=c) (hn▸hb.1);rw[ht]at e;simp only[rep]at e;have E:Rel n S0 w0 H0 ρ H a w:=⟨S,hS,hF,hG,hN,hd,hn⟩;exact wp_cond_split e (fun ht=>pZ Z x Q ρ H a w hb.2.1 (h.1 ht) E) (fun ht=>pZ Z y Q ρ H a w hb.2.2 (h.2 ht) E)
  grind
 | .block id c,Q,ρ,H,a,w,hb,h,E=>by
  rw[Ma]at h;refine wp_block (wp_mono (pZ Z c _ ρ H a w hb h E) fun e a' w' J=>?_);cases e <;> simp only[Y0,Exit.inBlock]at J |-
  case normal=>exact J
  case ret=>exact J
  case exit i=>
   obtain⟨O,H',T,Y⟩:=J;simp only[Ex.blk]at T
   grind
 | .loop c,Q,ρ,H,a,w,hb,h,E=>by
  rw[Sk]at h;obtain⟨I,μ,h0,aa⟩:=h;refine wp_loop_ghost (fun m a w=>∃ρ H,I ρ H/\μ ρ H=m/\Rel n S0 w0 H0 ρ H a w) (μ ρ H) ⟨ρ,H,h0,rfl,E⟩ ?_;rintro m a' w' ⟨O,H',hI,rfl,ah⟩;refine wp_mono (pZ Z c _ O H' a' w' hb (aa O H' hI) ah) fun e a2 w2 J=>?_
  cases e <;> simp only[Y0,Exit.then]at J |-
  case normal=>obtain⟨ai,H2,⟨T,aj⟩,Y⟩:=J;grind
  case exit id=>exact J
  case ret=>exact J
 | .exit id,Q,ρ,H,a,w,_,h,E=>wp_exit ⟨ρ,H,h,E⟩
 | .ret,Q,ρ,H,a,w,_,h,E=>wp_ret ⟨ρ,H,h,E⟩
 | .rangeFunc ..,_,_,_,_,_,_,h,_=>by grind[awp]
 | .scope c,Q,ρ,H,a,w,hb,h,E=>by
  rw[Nh]at h;refine wp_scope_straight (wp_mono (pZ Z c _ ρ H a w hb h E) fun e a' w' J=>?_);cases e <;> simp only[Y0,Exit.noGoto]at J |-
  case normal=>exact J
  case exit id=>exact J
  case ret=>exact J
 | .label _,Q,ρ,H,a,w,_,h,E=>wp_label ⟨ρ,H,h,E⟩
 | .goto _,_,_,_,_,_,_,h,_=>by grind[awp]
 | .refuse _,_,_,_,_,_,_,h,_=>by grind[awp]
def GP(P:Program)(ρ:Env)(H:aG):List ResultVar->(List AV->Prop)->Prop
 | [],K=>K []
 | .tmp t::r,K=>GP P ρ H r fun l=>K (ρ t::l)
 | .cell t ty::r,K=>match ldT P ty with
   | some l=>qR none H l (ρ t) fun x=>GP P ρ H r fun xs=>K (x::xs)
   | none=>False
def Xs(R:AV->Prop):List AV->Prop
 | [x]=>R x
 | l=>R (.tup l)
def KH(P:Program)(rs:List ResultVar)(R:AV->aG->Prop):Ex->Env->aG->Prop
 | .exit _,_,_=>False
 | _,ρ,H=>GP P ρ H rs (Xs fun x=>R x H)
def amN(n:Nat):ResultVar->Bool
 | .tmp t=>decide (t<n)
 | .cell t _=>decide (t<n)
def Di(fn:Func)(c:Code)(m:Nat):Bool:=BP fn.ntmps c&&fn.results.toList.all (amN fn.ntmps)&&decide (m<=fn.ntmps)
section
variable{P:Program}{S:Sg}{H:aG}{w:World}{ρ:Env}{a:Act}
def YZ{G:Option Bool}{l:Option Nat}{x:AV}{K:AV->Prop}(h:qR G H l x K){u:Value}(F:rep S w x u):∃E,u=.pointer (some E):=by
 unfold qR at h
 grind[rep]
def Pc(tmps:Array Value):ResultVar->Sem Value
 | .tmp t=>pure (tmps.getD t undef)
 | .cell b t=>do loadVar t (<-asAddr (tmps.getD b undef))
theorem WC(fn:Func)(E:Array Value):results fn E=(do
 let vs <-fn.results.mapM (Pc E)
 pure (if h:vs.size=1 then vs[0]else .tuple vs)):=by rfl
def BZ(T:BG S w H)(I:FR S w ρ a):∀(O:List ResultVar) (K:List AV->Prop),(∀r∈O,amN a.tmps.size r=true)->GP P ρ H O K ->
  ∃l vs,K l/\(O.mapM (Pc a.tmps)).run P w=.ok vs w/\bO S w l vs
 | [],K,_,h=>⟨[],[],h,by simp,by rfl⟩
 | .tmp t::r,K,hb,h=>by
  simp only[GP]at h;obtain⟨l,vs,h1,Z,Y⟩:=BZ T I r _ (fun x X=>hb x (by simp[X])) h;have J:t<a.tmps.size:=by simpa[amN]using hb (.tmp t) (by simp)
  refine⟨_,a.tmps.getD t undef::vs,h1,?_,?_⟩
  ·rw[List.mapM_cons];simp only[Pc,Sem.run_bind,Sem.run_pure,Result.andThen_ok];rw[Z];rfl
  ·simp only[bO];exact⟨_,_,rfl,I t J,Y⟩
 | .cell t ty::r,K,hb,h=>by
  simp only[GP]at h;split at h
  ·rename_i l hl;have J:t<a.tmps.size:=by simp_all[amN]
   obtain⟨z,hz,hd⟩:=GK (S:=S) (w:=w) hl T h;obtain⟨v,hv,F⟩:=hd trivial _ (I t J);obtain⟨ad,e⟩:=YZ h (I t J);have E:=F w (Agree.refl S H w);rw[e]at E;simp only[Instr.loadAt,Instr.sureAddr,pure_bind]at E;obtain⟨l',vs,h1,Z,Y⟩:=BZ T I r _ (fun x X=>hb x (by grind)) hz;refine⟨_,v::vs,h1,?_,?_⟩
   ·simp_all[asAddr,Pc]
   grind[bO]
  grind
def bK.body{f:FuncId}{fn:Func}{c:Code}{args:List AV}{R:AV->aG->Prop}(mt:Nat->Bool)(hm:P.follows .mixedOrders=true)(hf:P.funcs[f]?=some fn)(hb:fn.body=some c)(hc:Di fn c args.length=true)
  (h:awp P (bK P) (eV P) mt c (KH P fn.results.toList R) (Gg args) H):bK P f args H R:=by
 intro S w vals hS ha;simp only[Di,Bool.and_eq_true,decide_eq_true_eq]at hc;obtain⟨⟨I,ad⟩,ae⟩:=hc;have ah:=jB _ _ ha;refine calls_of_wp hf hb (wp_mono (pZ (n:=fn.ntmps) (S0:=S) (w0:=w) (H0:=H) hm c _ _ H _ w I h ⟨S,hS,?_,Grow.refl S w,gY.refl _ _,rfl,?_⟩) ?_)
 ·intro t ht;by_cases e:t<args.length
  ·obtain⟨u,h1,F⟩:=D6 args vals t ha e;simp_all[Gg]
  grind[Gg,rep]
 ·grind
 ·intro e Z w' Y;have O:∀E H',GP P E H' fn.results.toList (Xs fun x=>R x H')->Rel fn.ntmps S w H E H' Z w'->Z.defers=[]/\∃v,(results fn Z.tmps).run P w'=.ok v w'/\atG S w H R (.returned v) w':=by
   rintro E H' h1 ⟨S',J,ac,X,T,ab,ai⟩;refine⟨ab,?_⟩;obtain⟨l,vs,F,h3,h4⟩:=BZ (P:=P) J.rows ac fn.results.toList _ (fun r hr=>by grind) h1;have hr:(results fn Z.tmps).run P w'=.ok (if h:vs.toArray.size=1 then vs.toArray[0]else .tuple vs.toArray) w':=by grind[WC,Array.mapM_eq_mapM_toList,Sem.run_bind,Sem.run_map,Result.andThen_ok,Sem.run_pure]
   refine⟨_,hr,?_⟩;unfold Xs at F;split at F
   ·rename_i x;simp only[bO]at h4;obtain⟨u,t,rfl,h5,rfl⟩:=h4;exact⟨_,x,H',S',rfl,F,J,by grind,X,T⟩
   ·rename_i ag;have af:=jB _ _ h4;have aa:¬vs.toArray.size=1:=by
     intro e;have:l.length=1:=by grind
     match l,this with
     | [x],_=>grind
    rw[dif_neg aa];exact⟨_,_,H',S',rfl,F,J,by grind[rep],X,T⟩
  cases e <;> simp only[Y0,bodyPost]at Y |-
  case normal=>obtain⟨E,H',h1,F⟩:=Y;exact O E H' h1 F
  case ret=>obtain⟨E,H',h1,F⟩:=Y;exact O E H' h1 F
  case exit id=>obtain⟨E,H',h1,F⟩:=Y;exact h1.elim
def RC.body{f:FuncId}{fn:Func}{c:Code}{args:List AV}{R:AV->aG->Prop}(mt:Nat->Bool)(F:P.follows .mixedOrders=true)(I:P.funcs[f]?=some fn)(E:fn.body=some c)(T:Di fn c args.length=true)
 (h:awp P (bK P) (eV P) mt c (KH P fn.results.toList R) (Gg args) bQ):RC P f args R:=fun S w vals J _ O=>bK.body mt F I E T h S w vals J O
def PC.body{f:FuncId}{fn:Func}{c:Code}{args:List AV}{r:AV}(mt:Nat->Bool)(F:P.follows .mixedOrders=true)(I:P.funcs[f]?=some fn)(E:fn.body=some c)(J:Di fn c args.length=true)
 (h:awp P (bK P) (eV P) mt c (KH P fn.results.toList fun x H'=>Conv H' x r) (Gg args) bQ):PC P f args r:=RC.conv (RC.body mt F I E J h)
def NC.body{f:FuncId}{fn:Func}{c:Code}{args:List AV}{row:Row}{E:Nat->AV}(mt:Nat->Bool)(I:P.follows .mixedOrders=true)(J:P.funcs[f]?=some fn)(F:fn.body=some c)(O:Di fn c args.length=true)
 (h:awp P (bK P) (eV P) mt c (KH P fn.results.toList fun x H'=>∃k,x=E k/\H' k=some row) (Gg args) bQ):NC P f args row E:=RC.body mt I J F O h
def PC.q{f:FuncId}{args:List AV}{r:AV}(h:PC P f args r)(E:(fv r).isSome=true):eV P f args H r:=.inl ⟨args,ConvL.refl args,h,E⟩
def PC.qn{f:FuncId}{args:List AV}{r:AV}(h:PC P f args r):eV P f args H (.nf r):=.inr ⟨r,rfl,h⟩
def eV.use{f:FuncId}{args:List AV}{r:AV}{K:AV->aG->Prop}(h:EH P f args H r)(E:K r H):bK P f args H K:=EH.use h E
end
end Go.Aw
end
section
namespace Go.Proofs.YtpagaknmdfgfkaaGreatDoor.Ty
open Go.Aw Go.Proofs
theorem E6{P:Program}{t:TypeId}(h:(P.info? t).map (·.size)=some 1):∃i,P.info? t=some i/\i.size=1:=by
 cases E:P.info? t with
 | none=>simp[E]at h
 | some i=>exact⟨i,rfl,by simpa[E]using h⟩
theorem mixed:Tryz.prog.follows .mixedOrders=true:=by kernel_rfl
theorem auW:cN Tryz.prog 38=some (4,1,1):=by kernel_rfl
theorem auF:cN Tryz.prog 39=some (112,2,16):=by kernel_rfl
theorem awX:cN Tryz.prog 49=some (43,7,88):=by kernel_rfl
theorem arE:cN Tryz.prog 177=some (228,2,16):=by kernel_rfl
theorem JG:UX Tryz.prog 235=some (3,3):=by kernel_rfl
theorem kk3:xA Tryz.prog 3=some 0:=by kernel_rfl
theorem zv3:No Tryz.prog 3=some (.v (.int .i64 0)):=by kernel_rfl
theorem so3:∃i,Tryz.prog.info? 3=some i/\i.size=1:=E6 (by kernel_rfl)
theorem so4:∃i,Tryz.prog.info? 4=some i/\i.size=1:=E6 (by kernel_rfl)
theorem WX:∃i,Tryz.prog.info? 255=some i/\i.size=1:=E6 (by kernel_rfl)
theorem arV:∃i,Tryz.prog.info? 323=some i/\i.size=1:=E6 (by kernel_rfl)
theorem awK:eD Tryz.prog 43=some [.v (.int .i64 0),.v (.int .i64 0),.v (.int .i64 0),.v (.int .i64 0),.v (.int .i64 0),.sl [],.sl []]:=by kernel_rfl
open Go.Proofs.Tryz(prog)
theorem tyJ0:La prog 3=some .i64/\La prog 5=some .u8/\fM prog 9=true/\IF prog 167=true/\La prog 206=some .u64/\Ch prog 4=true/\C2 prog 112=some [0,2]/\C2 prog 228=some [0,0]/\C2 prog 337=some [0,0,0]/\aP prog 25 0=some (0,none)/\aP prog 25 1=some (1,none)/\aP prog 30 0=some (0,some 2)/\aP prog 30 1=some (2,none)/\aP prog 30 2=some (3,none)/\aP prog 30 3=some (4,none)/\aP prog 30 4=some (5,none)/\aP prog 35 0=some (0,some 6)/\aP prog 35 1=some (6,none)/\aP prog 35 2=some (7,none)/\aP prog 35 3=some (8,none)/\aP prog 41 0=some (0,none)/\aP prog 41 1=some (1,none)/\aP prog 41 2=some (2,none)/\aP prog 41 3=some (3,none)/\aP prog 43 0=some (0,none)/\aP prog 43 1=some (1,none)/\aP prog 43 2=some (2,none)/\aP prog 43 3=some (3,some 4)/\aP prog 64 0=some (0,some 7)/\aP prog 64 1=some (7,none)/\aP prog 72 0=some (0,some 7)/\aP prog 72 1=some (7,none)/\aP prog 85 0=some (0,none)/\aP prog 85 1=some (1,none)/\aP prog 88 0=some (0,none)/\aP prog 88 1=some (1,none)/\aP prog 88 2=some (2,none)/\aP prog 88 3=some (3,none)/\aP prog 88 4=some (4,none)/\aP prog 88 5=some (5,none):=by and_intros<;>kernel_rfl
theorem axP:aP prog 91 0=some (0,none)/\aP prog 91 1=some (1,none)/\aP prog 91 2=some (2,none)/\aP prog 91 3=some (3,none)/\aP prog 93 0=some (0,none)/\aP prog 93 1=some (1,none)/\aP prog 93 2=some (2,some 4)/\aP prog 93 3=some (6,some 4)/\aP prog 93 4=some (10,none)/\aP prog 93 5=some (11,none)/\aP prog 93 6=some (12,none)/\aP prog 93 7=some (13,none)/\aP prog 93 8=some (14,none)/\aP prog 93 9=some (15,none)/\aP prog 95 0=some (0,none)/\aP prog 95 1=some (1,none)/\aP prog 95 2=some (2,none)/\aP prog 95 3=some (3,none)/\aP prog 95 4=some (4,none)/\aP prog 95 5=some (5,none)/\aP prog 95 6=some (6,none)/\aP prog 95 7=some (7,none)/\aP prog 95 8=some (8,none)/\aP prog 95 9=some (9,none)/\aP prog 95 10=some (10,none)/\aP prog 95 11=some (11,none)/\aP prog 95 12=some (12,none)/\aP prog 95 13=some (13,none)/\aP prog 102 0=some (0,none)/\aP prog 102 1=some (1,none)/\aP prog 102 2=some (2,none)/\aP prog 112 0=some (0,none)/\aP prog 112 1=some (1,none)/\aP prog 119 0=some (0,none)/\aP prog 119 1=some (1,none)/\aP prog 128 0=some (0,none)/\aP prog 128 1=some (1,none)/\aP prog 128 2=some (2,none)/\aP prog 128 3=some (3,none)/\aP prog 174 0=some (0,some 6):=by and_intros<;>kernel_rfl
theorem axJ:aP prog 174 1=some (6,none)/\aP prog 174 2=some (7,none)/\aP prog 174 3=some (8,none)/\aP prog 174 4=some (9,some 7)/\aP prog 174 5=some (16,none)/\aP prog 194 0=some (0,none)/\aP prog 194 1=some (1,none)/\aP prog 228 0=some (0,none)/\aP prog 228 1=some (1,none)/\aP prog 257 0=some (0,none)/\aP prog 257 1=some (1,none)/\aP prog 257 2=some (2,none)/\aP prog 257 3=some (3,none)/\aP prog 257 4=some (4,none)/\aP prog 259 0=some (0,none)/\aP prog 259 1=some (1,none)/\aP prog 259 2=some (2,none)/\aP prog 259 3=some (3,none)/\aP prog 325 0=some (0,some 6)/\aP prog 325 1=some (6,some 14)/\aP prog 325 2=some (20,some 4)/\aP prog 325 3=some (24,none)/\aP prog 329 0=some (0,none)/\aP prog 329 1=some (1,none)/\aP prog 329 2=some (2,some 5)/\aP prog 375 1=some (1,none)/\aP prog 375 2=some (2,none)/\aP prog 375 3=some (3,none)/\aP prog 389 0=some (0,none)/\aP prog 389 1=some (1,none)/\aP prog 389 2=some (2,none)/\aP prog 389 3=some (3,none)/\cN prog 22=some (9,1,16)/\dB prog 22=true/\cN prog 23=some (88,6,80)/\dB prog 23=true/\cN prog 26=some (95,14,136)/\dB prog 26=true/\cN prog 27=some (93,16,152)/\dB prog 27=true:=by and_intros<;>kernel_rfl
theorem atF:cN prog 28=some (169,2,16)/\dB prog 28=true/\cN prog 31=some (102,3,24)/\dB prog 31=true/\cN prog 32=some (128,4,32)/\dB prog 32=true/\cN prog 33=some (44,1,16)/\dB prog 33=true/\dB prog 38=true/\dB prog 39=true/\fM prog 44=true/\dB prog 49=true/\cN prog 54=some (119,2,24)/\dB prog 54=true/\cN prog 60=some (64,8,104)/\dB prog 60=true/\cN prog 67=some (72,8,104)/\dB prog 67=true/\cN prog 86=some (85,2,16)/\dB prog 86=true/\cN prog 89=some (3,1,8)/\dB prog 89=true/\Gi prog 107=some (4,1,none)/\cN prog 122=some (45,1,8)/\dB prog 122=true/\cN prog 137=some (184,3,40)/\dB prog 137=true/\cN prog 167=some (5,1,1)/\Gi prog 169=some (2,1,none)/\dB prog 177=true/\cN prog 190=some (194,2,24)/\dB prog 190=true/\cN prog 207=some (3,1,8)/\dB prog 207=true/\Gi prog 238=some (2,1,none)/\cN prog 243=some (89,1,24)/\dB prog 243=true/\cN prog 255=some (375,4,32)/\dB prog 255=true/\cN prog 269=some (238,2,32):=by and_intros<;>kernel_rfl
theorem auQ:dB prog 269=true/\cN prog 285=some (282,1,8)/\dB prog 285=true/\Gi prog 289=some (4,1,none)/\cN prog 323=some (91,4,32)/\dB prog 323=true/\cN prog 331=some (329,7,72)/\dB prog 331=true/\ldT prog 3=some none/\ldT prog 4=some none/\ldT prog 9=some none/\ldT prog 22=some none/\ldT prog 23=some none/\ldT prog 25=some (some 2)/\ldT prog 26=some none/\ldT prog 27=some none/\ldT prog 28=some none/\ldT prog 30=some (some 6)/\ldT prog 31=some none/\ldT prog 32=some none/\ldT prog 33=some none/\ldT prog 35=some (some 9)/\ldT prog 38=some none/\ldT prog 39=some none/\ldT prog 41=some (some 4)/\ldT prog 43=some (some 7)/\ldT prog 44=some none/\ldT prog 45=some none/\ldT prog 64=some (some 8)/\ldT prog 72=some (some 8)/\ldT prog 85=some (some 2)/\ldT prog 86=some none/\ldT prog 88=some (some 6)/\ldT prog 89=some none/\ldT prog 91=some (some 4)/\ldT prog 93=some (some 16)/\ldT prog 95=some (some 14)/\ldT prog 102=some (some 3)/\ldT prog 107=some (some 4)/\ldT prog 112=some (some 2):=by and_intros<;>kernel_rfl
theorem asO:ldT prog 128=some (some 4)/\ldT prog 169=some (some 2)/\ldT prog 194=some (some 2)/\ldT prog 228=some (some 2)/\ldT prog 231=some none/\ldT prog 238=some (some 2)/\ldT prog 255=some none/\ldT prog 257=some (some 5)/\ldT prog 259=some (some 4)/\ldT prog 282=some none/\ldT prog 289=some (some 4)/\ldT prog 323=some none/\ldT prog 325=some (some 25)/\ldT prog 329=some (some 7)/\ldT prog 337=some (some 3)/\ldT prog 375=some (some 4)/\ldT prog 389=some (some 4)/\eY prog 25=some [(0,1),(1,1)]/\eY prog 30=some [(0,2),(2,1),(3,1),(4,1),(5,1)]/\eY prog 41=some [(0,1),(1,1),(2,1),(3,1)]/\eY prog 43=some [(0,1),(1,1),(2,1),(3,4)]/\eY prog 64=some [(0,7),(7,1)]/\eY prog 72=some [(0,7),(7,1)]/\eY prog 85=some [(0,1),(1,1)]/\eY prog 88=some [(0,1),(1,1),(2,1),(3,1),(4,1),(5,1)]/\eY prog 91=some [(0,1),(1,1),(2,1),(3,1)]/\eY prog 93=some [(0,1),(1,1),(2,4),(6,4),(10,1),(11,1),(12,1),(13,1),(14,1),(15,1)]/\eY prog 95=some [(0,1),(1,1),(2,1),(3,1),(4,1),(5,1),(6,1),(7,1),(8,1),(9,1),(10,1),(11,1),(12,1),(13,1)]/\eY prog 107=some [(0,1),(1,1),(2,1),(3,1)]/\eY prog 112=some [(0,1),(1,1)]/\eY prog 119=some [(0,1),(1,1)]/\eY prog 174=some [(0,6),(6,1),(7,1),(8,1),(9,7),(16,1)]/\eY prog 184=some [(0,1),(1,1),(2,1)]/\eY prog 194=some [(0,1),(1,1)]/\eY prog 228=some [(0,1),(1,1)]/\eY prog 238=some [(0,1),(1,1)]/\eY prog 257=some [(0,1),(1,1),(2,1),(3,1),(4,1)]/\eY prog 259=some [(0,1),(1,1),(2,1),(3,1)]/\eY prog 289=some [(0,1),(1,1),(2,1),(3,1)]/\eY prog 325=some [(0,6),(6,14),(20,4),(24,1)]:=by and_intros<;>kernel_rfl
theorem avQ:eY prog 329=some [(0,1),(1,1),(2,5)]/\eY prog 337=some [(0,1),(1,1),(2,1)]/\eY prog 375=some [(0,1),(1,1),(2,1),(3,1)]/\eY prog 389=some [(0,1),(1,1),(2,1),(3,1)]/\eD prog 3=some [.v (.int .i64 0)]/\eD prog 4=some [.v (.bool false)]/\eD prog 9=some [.v (.string ByteArray.empty)]/\eD prog 25=some [.sl [],.sl []]/\eD prog 30=some [.sl [],.sl [],.sl [],.sl [],.sl [],.sl []]/\eD prog 41=some [.v (.int .i64 0),.v (.int .i64 0),.sl [],.sl []]/\eD prog 64=some [.v (.int .i64 0),.v (.int .i64 0),.v (.int .i64 0),.v (.int .i64 0),.v (.int .i64 0),.sl [],.sl [],.v (.string ByteArray.empty)]/\eD prog 72=some [.v (.int .i64 0),.v (.int .i64 0),.v (.int .i64 0),.v (.int .i64 0),.v (.int .i64 0),.sl [],.sl [],.v (.string ByteArray.empty)]/\eD prog 85=some [.v (.int .i64 0),.v (.int .i64 0)]/\eD prog 88=some [.v (.int .i64 0),.v (.int .i64 0),.v (.int .i64 0),.v (.int .i64 0),.sl [],.sl []]/\eD prog 91=some [.v (.int .i64 0),.v (.int .i64 0),.v (.int .i64 0),.v (.int .i64 0)]/\eD prog 93=some [.v (.string ByteArray.empty),.sl [],.v (.int .i64 0),.v (.int .i64 0),.v (.int .i64 0),.v (.int .i64 0),.v (.int .i64 0),.v (.int .i64 0),.v (.int .i64 0),.v (.int .i64 0),.v (.int .i64 0),.v (.int .i64 0),.v (.int .i64 0),.v (.int .i64 0),.v (.int .i64 0),.v (.bool false)]/\eD prog 95=some [.v (.string ByteArray.empty),.v (.int .i64 0),.v (.int .i64 0),.v (.int .i64 0),.sl [],.v (.int .i64 0),.v (.int .i64 0),.v (.int .i64 0),.v (.int .i64 0),.v (.int .i64 0),.v (.int .i64 0),.v (.int .i64 0),.v (.int .i64 0),.v (.int .i64 0)]/\eD prog 102=some [.v (.int .i64 0),.v (.int .i64 0),.v (.int .i64 0)]/\eD prog 107=some [.v (.string ByteArray.empty),.v (.string ByteArray.empty),.v (.string ByteArray.empty),.v (.string ByteArray.empty)]/\eD prog 112=some [.v (.int .i64 0),.v (.bool false)]/\eD prog 119=some [.v (.int .i64 0),.v (.string ByteArray.empty)]/\eD prog 128=some [.v (.int .i64 0),.v (.int .i64 0),.v (.int .i64 0),.v (.int .i64 0)]/\eD prog 169=some [.v (.int .i64 0),.v (.int .i64 0)]/\eD prog 174=some [.sl [],.sl [],.sl [],.sl [],.sl [],.sl [],.v (.int .i64 0),.v (.int .i64 0),.v (.int .i64 0),.v (.int .i64 0),.v (.int .i64 0),.v (.int .i64 0),.v (.int .i64 0),.v (.int .i64 0),.sl [],.sl [],.v (.bool false)]/\uJ prog 184=some [(0,3,1)]/\eD prog 184=some [.sl [],.v (.int .i64 0),.v (.int .i64 0)]/\eD prog 194=some [.v (.bool false),.v (.string ByteArray.empty)]/\eD prog 228=some [.v (.int .i64 0),.v (.int .i64 0)]/\eD prog 238=some [.v (.string ByteArray.empty),.v (.string ByteArray.empty)]/\uJ prog 257=some [(2,375,4)]/\eD prog 257=some [.v (.bool false),.v (.int .i64 0),.sl [],.v (.int .i64 0),.v (.int .i64 0)]/\eD prog 259=some [.v (.int .i64 0),.v (.int .i64 0),.v (.int .i64 0),.v (.int .i64 0)]/\eD prog 289=some [.v (.int .i64 0),.v (.int .i64 0),.v (.int .i64 0),.v (.int .i64 0)]/\uJ prog 325=some [(0,9,1),(1,88,6),(2,95,14),(3,93,16),(4,169,2),(5,169,2),(10,3,1),(22,4,1),(23,112,2),(24,91,4)]/\eD prog 325=some [.sl [],.sl [],.sl [],.sl [],.sl [],.sl [],.v (.string ByteArray.empty),.v (.int .i64 0),.v (.int .i64 0),.v (.int .i64 0),.sl [],.v (.int .i64 0),.v (.int .i64 0),.v (.int .i64 0),.v (.int .i64 0),.v (.int .i64 0),.v (.int .i64 0),.v (.int .i64 0),.v (.int .i64 0),.v (.int .i64 0),.v (.int .i64 0),.v (.int .i64 0),.sl [],.sl [],.sl []]/\eD prog 329=some [.v (.int .i64 0),.v (.int .i64 0),.v (.bool false),.v (.int .i64 0),.sl [],.v (.int .i64 0),.v (.int .i64 0)]/\eD prog 337=some [.v (.int .i64 0),.v (.int .i64 0),.v (.int .i64 0)]/\eD prog 375=some [.v (.int .i64 0),.v (.int .i64 0),.v (.int .i64 0),.v (.bool false)]/\eD prog 389=some [.v (.int .i64 0),.v (.int .i64 0),.v (.int .i64 0),.v (.int .i64 0)]/\aE prog 5=true:=by and_intros<;>kernel_rfl
theorem atY:aE prog 6=true/\aE prog 7=true/\aE prog 9=true/\aE prog 10=true/\aE prog 11=true/\aE prog 12=true/\aE prog 13=true/\aE prog 14=true/\aE prog 15=true/\aE prog 16=true/\aE prog 17=true/\aE prog 18=true/\aE prog 19=true/\aE prog 21=true/\aE prog 22=true/\aE prog 23=true/\aE prog 24=true/\aE prog 25=true/\aE prog 26=true/\aE prog 27=true/\aE prog 28=true/\aE prog 29=true/\aE prog 30=true/\aE prog 31=true/\aE prog 32=true/\aE prog 33=true/\aE prog 34=true/\aE prog 35=true/\aE prog 36=true/\aE prog 37=true/\aE prog 38=true/\aE prog 40=true/\aE prog 41=true/\aE prog 42=true/\aE prog 43=true/\aE prog 44=true/\aE prog 45=true/\aE prog 46=true/\aE prog 47=true/\aE prog 48=true:=by and_intros<;>kernel_rfl
theorem atQ:aE prog 49=true/\aE prog 50=true/\aE prog 51=true/\aE prog 52=true/\aE prog 53=true/\aE prog 54=true/\aE prog 55=true/\aE prog 56=true/\aE prog 57=true/\aE prog 58=true/\aE prog 59=true/\aE prog 60=true/\aE prog 61=true/\aE prog 62=true/\aE prog 63=true/\aE prog 64=true/\aE prog 65=true/\aE prog 66=true/\aE prog 67=true/\aE prog 68=true/\aE prog 69=true/\aE prog 70=true/\aE prog 71=true/\aE prog 72=true/\aE prog 73=true/\aE prog 74=true/\aE prog 75=true/\aE prog 76=true/\aE prog 77=true/\aE prog 78=true/\aE prog 79=true/\aE prog 80=true/\aE prog 81=true/\aE prog 82=true/\aE prog 83=true/\aE prog 84=true/\aE prog 85=true/\aE prog 86=true/\aE prog 87=true/\aE prog 88=true:=by and_intros<;>kernel_rfl
theorem awA:aE prog 89=true/\aE prog 90=true/\aE prog 91=true/\aE prog 92=true/\aE prog 93=true/\aE prog 94=true/\aE prog 95=true/\aE prog 96=true/\aE prog 97=true/\aE prog 98=true/\aE prog 99=true/\aE prog 100=true/\aE prog 101=true/\aE prog 102=true/\aE prog 103=true/\aE prog 104=true/\aE prog 105=true/\aE prog 106=true/\aE prog 107=true/\aE prog 108=true/\aE prog 109=true/\aE prog 110=true/\aE prog 111=true/\aE prog 112=true/\aE prog 113=true/\aE prog 114=true/\aE prog 115=true/\aE prog 116=true/\aE prog 117=true/\aE prog 118=true/\aE prog 119=true/\aE prog 120=true/\aE prog 121=true/\aE prog 122=true/\aE prog 123=true/\aE prog 124=true/\aE prog 125=true/\aE prog 126=true/\aE prog 127=true/\aE prog 128=true:=by and_intros<;>kernel_rfl
theorem atO:aE prog 129=true/\aE prog 130=true/\aE prog 132=true/\aE prog 133=true/\aE prog 134=true/\aE prog 135=true/\aE prog 136=true/\aE prog 137=true/\aE prog 138=true/\aE prog 139=true/\aE prog 140=true/\aE prog 141=true/\aE prog 142=true/\aE prog 143=true/\aE prog 144=true/\aE prog 145=true/\aE prog 146=true/\aE prog 147=true/\aE prog 148=true/\aE prog 149=true/\aE prog 150=true/\aE prog 151=true/\aE prog 152=true/\aE prog 153=true/\aE prog 154=true/\aE prog 155=true/\aE prog 156=true/\aE prog 157=true/\aE prog 158=true/\aE prog 159=true/\aE prog 160=true/\aE prog 163=true/\aE prog 164=true/\aE prog 165=true/\aE prog 167=true/\aE prog 168=true/\aE prog 169=true/\aE prog 170=true/\aE prog 171=true/\aE prog 172=true:=by and_intros<;>kernel_rfl
theorem atX:aE prog 173=true/\aE prog 174=true/\aE prog 176=true/\aE prog 177=true/\aE prog 178=true/\aE prog 179=true/\aE prog 180=true/\aE prog 181=true/\aE prog 183=true/\aE prog 184=true/\aE prog 188=true/\aE prog 190=true/\aE prog 191=true/\aE prog 193=true/\aE prog 194=true/\aE prog 195=true/\aE prog 196=true/\aE prog 197=true/\aE prog 198=true/\aE prog 199=true/\aE prog 200=true/\aE prog 201=true/\aE prog 202=true/\aE prog 203=true/\aE prog 204=true/\aE prog 205=true/\aE prog 206=true/\aE prog 207=true/\aE prog 208=true/\aE prog 209=true/\aE prog 210=true/\aE prog 211=true/\aE prog 212=true/\aE prog 213=true/\aE prog 214=true/\aE prog 215=true/\aE prog 217=true/\aE prog 218=true/\aE prog 219=true/\aE prog 220=true:=by and_intros<;>kernel_rfl
theorem avF:aE prog 221=true/\aE prog 224=true/\aE prog 225=true/\aE prog 226=true/\aE prog 227=true/\aE prog 228=true/\aE prog 229=true/\aE prog 230=true/\aE prog 231=true/\aE prog 232=true/\aE prog 233=true/\aE prog 234=true/\aE prog 238=true/\aE prog 240=true/\aE prog 241=true/\aE prog 242=true/\aE prog 243=true/\aE prog 244=true/\aE prog 245=true/\aE prog 246=true/\aE prog 247=true/\aE prog 248=true/\aE prog 249=true/\aE prog 250=true/\aE prog 251=true/\aE prog 252=true/\aE prog 258=true/\aE prog 259=true/\aE prog 260=true/\aE prog 261=true/\aE prog 262=true/\aE prog 263=true/\aE prog 264=true/\aE prog 265=true/\aE prog 266=true/\aE prog 267=true/\aE prog 268=true/\aE prog 269=true/\aE prog 270=true/\aE prog 271=true:=by and_intros<;>kernel_rfl
theorem asV:aE prog 272=true/\aE prog 273=true/\aE prog 279=true/\aE prog 281=true/\aE prog 282=true/\aE prog 283=true/\aE prog 284=true/\aE prog 285=true/\aE prog 286=true/\aE prog 287=true/\aE prog 288=true/\aE prog 289=true/\aE prog 290=true/\aE prog 291=true/\aE prog 294=true/\aE prog 295=true/\aE prog 296=true/\aE prog 297=true/\aE prog 298=true/\aE prog 299=true/\aE prog 300=true/\aE prog 301=true/\aE prog 302=true/\aE prog 303=true/\aE prog 304=true/\aE prog 305=true/\aE prog 306=true/\aE prog 307=true/\aE prog 308=true/\aE prog 309=true/\aE prog 310=true/\aE prog 311=true/\aE prog 312=true/\aE prog 313=true/\aE prog 314=true/\aE prog 315=true/\aE prog 316=true/\aE prog 324=true/\aE prog 325=true/\aE prog 326=true:=by and_intros<;>kernel_rfl
theorem asC:aE prog 327=true/\aE prog 328=true/\aE prog 329=true/\aE prog 330=true/\aE prog 331=true/\aE prog 332=true/\aE prog 333=true/\aE prog 334=true/\aE prog 336=true/\aE prog 337=true/\aE prog 338=true/\aE prog 339=true/\aE prog 340=true/\aE prog 341=true/\aE prog 342=true/\aE prog 343=true/\aE prog 344=true/\aE prog 345=true/\aE prog 346=true/\aE prog 347=true/\aE prog 348=true/\aE prog 349=true/\aE prog 356=true/\aE prog 357=true/\aE prog 358=true/\aE prog 359=true/\aE prog 360=true/\aE prog 361=true/\aE prog 362=true/\aE prog 363=true/\aE prog 364=true/\aE prog 365=true/\aE prog 366=true/\aE prog 367=true/\aE prog 368=true/\aE prog 369=true/\aE prog 370=true/\aE prog 371=true/\aE prog 372=true/\aE prog 376=true:=by and_intros<;>kernel_rfl
theorem avD:aE prog 377=true/\aE prog 378=true/\aE prog 379=true/\aE prog 380=true/\aE prog 381=true/\aE prog 382=true/\aE prog 383=true/\aE prog 384=true/\aE prog 385=true/\aE prog 386=true/\aE prog 387=true:=by and_intros<;>kernel_rfl
attribute [go_sem] auW auF awX arE JG kk3 zv3 so3 so4 WX arV awK tyJ0 axP axJ atF auQ asO avQ atY atQ awA atO atX avF asV asC avD
end Go.Proofs.YtpagaknmdfgfkaaGreatDoor.Ty
end
section
namespace Go.Aw.D
open Go.Aw
def bC(n:Int):List AV:=[.v (.int .i64 n)]
def dE(b:Bool):List AV:=[.v (.bool b)]
def fJ(s:ByteArray):List AV:=[.v (.string s)]
def If(x:Int):(bC x).length=1:=rfl
def aiH(x:Int):(bC x).getD 0 .any=.v (.int .i64 x):=rfl
def Sc(x:Bool):(dE x).length=1:=rfl
def ZA(x:Bool):(dE x).getD 0 .any=.v (.bool x):=rfl
def Vh(x:ByteArray):(fJ x).length=1:=rfl
def adE(x:ByteArray):(fJ x).getD 0 .any=.v (.string x):=rfl
structure Point where
 t:Int
 a:Int
 deriving DecidableEq
def bZ(x:Point):List AV:=[.v (.int .i64 x.t),.v (.int .i64 x.a)]
def fU(x:Point):(bZ x).length=2:=rfl
def V5(x:Point):(bZ x).getD 0 .any=.v (.int .i64 x.t):=rfl
def Wo(x:Point):(bZ x).getD 1 .any=.v (.int .i64 x.a):=rfl
def Ey(x:Point):(bZ x).take 2=bZ x:=rfl
structure Arc where
 src:Int
 dst:Int
 profile:Int
 miles:Int
 travel:List Point
 slow:List Point
 deriving DecidableEq
def gH(x:Arc):List AV:=[.v (.int .i64 x.src),.v (.int .i64 x.dst),.v (.int .i64 x.profile),.v (.int .i64 x.miles),.sl (x.travel.map bZ),.sl (x.slow.map bZ)]
def iZ(x:Arc):(gH x).length=6:=rfl
def ahX(x:Arc):(gH x).getD 0 .any=.v (.int .i64 x.src):=rfl
def aiB(x:Arc):(gH x).getD 1 .any=.v (.int .i64 x.dst):=rfl
def aeP(x:Arc):(gH x).getD 2 .any=.v (.int .i64 x.profile):=rfl
def akI(x:Arc):(gH x).getD 3 .any=.v (.int .i64 x.miles):=rfl
def aeT(x:Arc):(gH x).getD 4 .any=.sl (x.travel.map bZ):=rfl
def alC(x:Arc):(gH x).getD 5 .any=.sl (x.slow.map bZ):=rfl
def Up(x:Arc):(gH x).take 6=gH x:=rfl
structure Network where
 places:List ByteArray
 arcs:List Arc
 deriving DecidableEq
def bD(x:Network):List AV:=[.sl (x.places.map fJ),.sl (x.arcs.map gH)]
def Jd(x:Network):(bD x).length=2:=rfl
def OY(x:Network):(bD x).getD 0 .any=.sl (x.places.map fJ):=rfl
def Oy(x:Network):(bD x).getD 1 .any=.sl (x.arcs.map gH):=rfl
def Kn(x:Network):(bD x).take 2=bD x:=rfl
structure VType where
 name:ByteArray
 count:Int
 src:Int
 dst:Int
 cap:List Int
 skills:Int
 profile:Int
 start:Int
 close:Int
 drive:Int
 rest:Int
 fixed:Int
 perMile:Int
 perTick:Int
 deriving DecidableEq
def bF(x:VType):List AV:=[.v (.string x.name),.v (.int .i64 x.count),.v (.int .i64 x.src),.v (.int .i64 x.dst),.sl (x.cap.map bC),.v (.int .i64 x.skills),.v (.int .i64 x.profile),.v (.int .i64 x.start),.v (.int .i64 x.close),.v (.int .i64 x.drive),.v (.int .i64 x.rest),.v (.int .i64 x.fixed),.v (.int .i64 x.perMile),.v (.int .i64 x.perTick)]
def jH(x:VType):(bF x).length=14:=rfl
def Wj(x:VType):(bF x).getD 0 .any=.v (.string x.name):=rfl
def U7(x:VType):(bF x).getD 1 .any=.v (.int .i64 x.count):=rfl
def Vu(x:VType):(bF x).getD 2 .any=.v (.int .i64 x.src):=rfl
def Wl(x:VType):(bF x).getD 3 .any=.v (.int .i64 x.dst):=rfl
def UI(x:VType):(bF x).getD 4 .any=.sl (x.cap.map bC):=rfl
def WM(x:VType):(bF x).getD 5 .any=.v (.int .i64 x.skills):=rfl
def V6(x:VType):(bF x).getD 6 .any=.v (.int .i64 x.profile):=rfl
def VH(x:VType):(bF x).getD 7 .any=.v (.int .i64 x.start):=rfl
def Wi(x:VType):(bF x).getD 8 .any=.v (.int .i64 x.close):=rfl
def WS(x:VType):(bF x).getD 9 .any=.v (.int .i64 x.drive):=rfl
def TD(x:VType):(bF x).getD 10 .any=.v (.int .i64 x.rest):=rfl
def RO(x:VType):(bF x).getD 11 .any=.v (.int .i64 x.fixed):=rfl
def Ta(x:VType):(bF x).getD 12 .any=.v (.int .i64 x.perMile):=rfl
def QQ(x:VType):(bF x).getD 13 .any=.v (.int .i64 x.perTick):=rfl
def Py(x:VType):(bF x).take 14=bF x:=rfl
structure Stop where
 place:Int
 start:Int
 close:Int
 service:Int
 deriving DecidableEq
def eJ(x:Stop):List AV:=[.v (.int .i64 x.place),.v (.int .i64 x.start),.v (.int .i64 x.close),.v (.int .i64 x.service)]
def iC(x:Stop):(eJ x).length=4:=rfl
def abB(x:Stop):(eJ x).getD 0 .any=.v (.int .i64 x.place):=rfl
def abD(x:Stop):(eJ x).getD 1 .any=.v (.int .i64 x.start):=rfl
def aaM(x:Stop):(eJ x).getD 2 .any=.v (.int .i64 x.close):=rfl
def abI(x:Stop):(eJ x).getD 3 .any=.v (.int .i64 x.service):=rfl
def SX(x:Stop):(eJ x).take 4=eJ x:=rfl
structure Order where
 name:ByteArray
 load:List Int
 pick:Stop
 drop:Stop
 skills:Int
 penalty:Int
 split:Int
 last:Int
 now:Int
 off:Bool
 deriving DecidableEq
def bJ(x:Order):List AV:=[.v (.string x.name),.sl (x.load.map bC),.v (.int .i64 x.pick.place),.v (.int .i64 x.pick.start),.v (.int .i64 x.pick.close),.v (.int .i64 x.pick.service),.v (.int .i64 x.drop.place),.v (.int .i64 x.drop.start),.v (.int .i64 x.drop.close),.v (.int .i64 x.drop.service),.v (.int .i64 x.skills),.v (.int .i64 x.penalty),.v (.int .i64 x.split),.v (.int .i64 x.last),.v (.int .i64 x.now),.v (.bool x.off)]
def uV(x:Order):(bJ x).length=16:=rfl
def We(x:Order):(bJ x).getD 0 .any=.v (.string x.name):=rfl
def UN(x:Order):(bJ x).getD 1 .any=.sl (x.load.map bC):=rfl
def Um(x:Order):(bJ x).getD 2 .any=.v (.int .i64 x.pick.place):=rfl
def Uf(x:Order):(bJ x).getD 3 .any=.v (.int .i64 x.pick.start):=rfl
def VA(x:Order):(bJ x).getD 4 .any=.v (.int .i64 x.pick.close):=rfl
def WK(x:Order):(bJ x).getD 5 .any=.v (.int .i64 x.pick.service):=rfl
def Vx(x:Order):(bJ x).getD 6 .any=.v (.int .i64 x.drop.place):=rfl
def Uu(x:Order):(bJ x).getD 7 .any=.v (.int .i64 x.drop.start):=rfl
def V4(x:Order):(bJ x).getD 8 .any=.v (.int .i64 x.drop.close):=rfl
def Vk(x:Order):(bJ x).getD 9 .any=.v (.int .i64 x.drop.service):=rfl
def TH(x:Order):(bJ x).getD 10 .any=.v (.int .i64 x.skills):=rfl
def TY(x:Order):(bJ x).getD 11 .any=.v (.int .i64 x.penalty):=rfl
def RE(x:Order):(bJ x).getD 12 .any=.v (.int .i64 x.split):=rfl
def P9(x:Order):(bJ x).getD 13 .any=.v (.int .i64 x.last):=rfl
def Rv(x:Order):(bJ x).getD 14 .any=.v (.int .i64 x.now):=rfl
def Qa(x:Order):(bJ x).getD 15 .any=.v (.bool x.off):=rfl
def Oi(x:Order):(bJ x).take 16=bJ x:=rfl
def KR(x:Order):((bJ x).drop 2).take 4=eJ x.pick:=rfl
def Le(x:Order):((bJ x).drop 6).take 4=eJ x.drop:=rfl
structure Pair where
 a:Int
 b:Int
 deriving DecidableEq
def dH(x:Pair):List AV:=[.v (.int .i64 x.a),.v (.int .i64 x.b)]
def nP(x:Pair):(dH x).length=2:=rfl
def aaJ(x:Pair):(dH x).getD 0 .any=.v (.int .i64 x.a):=rfl
def aaA(x:Pair):(dH x).getD 1 .any=.v (.int .i64 x.b):=rfl
def QF(x:Pair):(dH x).take 2=dH x:=rfl
structure Instance where
 net:Network
 types:List VType
 orders:List Order
 apart:List Pair
 before:List Pair
 deriving DecidableEq
def aD(x:Instance):List AV:=[.sl (x.net.places.map fJ),.sl (x.net.arcs.map gH),.sl (x.types.map bF),.sl (x.orders.map bJ),.sl (x.apart.map dH),.sl (x.before.map dH)]
def HI(x:Instance):(aD x).length=6:=rfl
def K7(x:Instance):(aD x).getD 0 .any=.sl (x.net.places.map fJ):=rfl
def Lf(x:Instance):(aD x).getD 1 .any=.sl (x.net.arcs.map gH):=rfl
def KQ(x:Instance):(aD x).getD 2 .any=.sl (x.types.map bF):=rfl
def Lb(x:Instance):(aD x).getD 3 .any=.sl (x.orders.map bJ):=rfl
def K0(x:Instance):(aD x).getD 4 .any=.sl (x.apart.map dH):=rfl
def KN(x:Instance):(aD x).getD 5 .any=.sl (x.before.map dH):=rfl
def Hw(x:Instance):(aD x).take 6=aD x:=rfl
def HD(x:Instance):(aD x).take 2=bD x.net:=rfl
structure Visit where
 order:Int
 drop:Bool
 deriving DecidableEq
def aF(x:Visit):List AV:=[.v (.int .i64 x.order),.v (.bool x.drop)]
def dG(x:Visit):(aF x).length=2:=rfl
def Wg(x:Visit):(aF x).getD 0 .any=.v (.int .i64 x.order):=rfl
def UZ(x:Visit):(aF x).getD 1 .any=.v (.bool x.drop):=rfl
def Oa(x:Visit):(aF x).take 2=aF x:=rfl
structure Route where
 type:Int
 start:Int
 rests:List Bool
 visits:List Visit
 deriving DecidableEq
def bT(x:Route):List AV:=[.v (.int .i64 x.type),.v (.int .i64 x.start),.sl (x.rests.map dE),.sl (x.visits.map aF)]
def Am(x:Route):(bT x).length=4:=rfl
def WO(x:Route):(bT x).getD 0 .any=.v (.int .i64 x.type):=rfl
def U8(x:Route):(bT x).getD 1 .any=.v (.int .i64 x.start):=rfl
def Uq(x:Route):(bT x).getD 2 .any=.sl (x.rests.map dE):=rfl
def Vs(x:Route):(bT x).getD 3 .any=.sl (x.visits.map aF):=rfl
def NH(x:Route):(bT x).take 4=bT x:=rfl
structure Fault where
 err:Int
 at_:ByteArray
 deriving DecidableEq
def iH(x:Fault):List AV:=[.v (.int .i64 x.err),.v (.string x.at_)]
def Ov(x:Fault):(iH x).length=2:=rfl
def T7(x:Fault):(iH x).getD 0 .any=.v (.int .i64 x.err):=rfl
def Wn(x:Fault):(iH x).getD 1 .any=.v (.string x.at_):=rfl
def N6(x:Fault):(iH x).take 2=iH x:=rfl
structure Decision where
 kind:Int
 a:Int
 b:Int
 n:Int
 deriving DecidableEq
def aT(x:Decision):List AV:=[.v (.int .i64 x.kind),.v (.int .i64 x.a),.v (.int .i64 x.b),.v (.int .i64 x.n)]
def mL(x:Decision):(aT x).length=4:=rfl
def Lg(x:Decision):(aT x).getD 0 .any=.v (.int .i64 x.kind):=rfl
def Lh(x:Decision):(aT x).getD 1 .any=.v (.int .i64 x.a):=rfl
def KX(x:Decision):(aT x).getD 2 .any=.v (.int .i64 x.b):=rfl
def KK(x:Decision):(aT x).getD 3 .any=.v (.int .i64 x.n):=rfl
def Hq(x:Decision):(aT x).take 4=aT x:=rfl
structure Column where
 type:Int
 set:Int
 price:Int
 route:Route
 deriving DecidableEq
def aS(x:Column):List AV:=[.v (.int .i64 x.type),.v (.int .i64 x.set),.v (.int .i64 x.price),.v (.int .i64 x.route.type),.v (.int .i64 x.route.start),.sl (x.route.rests.map dE),.sl (x.route.visits.map aF)]
def cP(x:Column):(aS x).length=7:=rfl
def SN(x:Column):(aS x).getD 0 .any=.v (.int .i64 x.type):=rfl
def Td(x:Column):(aS x).getD 1 .any=.v (.int .i64 x.set):=rfl
def T1(x:Column):(aS x).getD 2 .any=.v (.int .i64 x.price):=rfl
def Tl(x:Column):(aS x).getD 3 .any=.v (.int .i64 x.route.type):=rfl
def Th(x:Column):(aS x).getD 4 .any=.v (.int .i64 x.route.start):=rfl
def Sn(x:Column):(aS x).getD 5 .any=.sl (x.route.rests.map dE):=rfl
def Tt(x:Column):(aS x).getD 6 .any=.sl (x.route.visits.map aF):=rfl
def KC(x:Column):(aS x).take 7=aS x:=rfl
def HB(x:Column):((aS x).drop 3).take 4=bT x.route:=rfl
structure Score where
 cost:Int
 moved:Int
 other:Int
 work:Int
 deriving DecidableEq
def cE(x:Score):List AV:=[.v (.int .i64 x.cost),.v (.int .i64 x.moved),.v (.int .i64 x.other),.v (.int .i64 x.work)]
def lA(x:Score):(cE x).length=4:=rfl
def AI(x:Score):(cE x).getD 0 .any=.v (.int .i64 x.cost):=rfl
def Az(x:Score):(cE x).getD 1 .any=.v (.int .i64 x.moved):=rfl
def An(x:Score):(cE x).getD 2 .any=.v (.int .i64 x.other):=rfl
def Ay(x:Score):(cE x).getD 3 .any=.v (.int .i64 x.work):=rfl
def uY(x:Score):(cE x).take 4=cE x:=rfl
structure Cut where
 kind:Int
 set:Int
 n:Int
 deriving DecidableEq
def dS(x:Cut):List AV:=[.v (.int .i64 x.kind),.v (.int .i64 x.set),.v (.int .i64 x.n)]
def Ab(x:Cut):(dS x).length=3:=rfl
def afQ(x:Cut):(dS x).getD 0 .any=.v (.int .i64 x.kind):=rfl
def alK(x:Cut):(dS x).getD 1 .any=.v (.int .i64 x.set):=rfl
def aiP(x:Cut):(dS x).getD 2 .any=.v (.int .i64 x.n):=rfl
def UB(x:Cut):(dS x).take 3=dS x:=rfl
structure TimeT where
 arrive:Int
 start:Int
 depart:Int
 rest:Bool
 deriving DecidableEq
def Qy(x:TimeT):List AV:=[.v (.int .i64 x.arrive),.v (.int .i64 x.start),.v (.int .i64 x.depart),.v (.bool x.rest)]
structure PRow where
 coef:List Int
 kind:Int
 right:Int
 deriving DecidableEq
structure Ask3 where
 x:Instance
 cuts:List Cut
 d:List Decision
 dual:List ByteArray
 deriving DecidableEq
def kE(x:Ask3):List AV:=[.sl (x.x.net.places.map fJ),.sl (x.x.net.arcs.map gH),.sl (x.x.types.map bF),.sl (x.x.orders.map bJ),.sl (x.x.apart.map dH),.sl (x.x.before.map dH),.sl (x.cuts.map dS),.sl (x.d.map aT),.sl (x.dual.map fJ)]
def QY(x:Ask3):(kE x).length=9:=rfl
def Y1(x:Ask3):(kE x).getD 0 .any=.sl (x.x.net.places.map fJ):=rfl
def ZI(x:Ask3):(kE x).getD 1 .any=.sl (x.x.net.arcs.map gH):=rfl
def aaF(x:Ask3):(kE x).getD 2 .any=.sl (x.x.types.map bF):=rfl
def Zx(x:Ask3):(kE x).getD 3 .any=.sl (x.x.orders.map bJ):=rfl
def abY(x:Ask3):(kE x).getD 4 .any=.sl (x.x.apart.map dH):=rfl
def YY(x:Ask3):(kE x).getD 5 .any=.sl (x.x.before.map dH):=rfl
def Zo(x:Ask3):(kE x).getD 6 .any=.sl (x.cuts.map dS):=rfl
def ZG(x:Ask3):(kE x).getD 7 .any=.sl (x.d.map aT):=rfl
def Zz(x:Ask3):(kE x).getD 8 .any=.sl (x.dual.map fJ):=rfl
def RZ(x:Ask3):(kE x).take 9=kE x:=rfl
def Z2(x:Ask3):(kE x).take 6=aD x.x:=rfl
structure Sheet where
 rest:Bool
 depart:Int
 times:List TimeT
 stop:Int
 miles:Int
 deriving DecidableEq
def bR(x:Sheet):List AV:=[.v (.bool x.rest),.v (.int .i64 x.depart),.sl (x.times.map Qy),.v (.int .i64 x.stop),.v (.int .i64 x.miles)]
def iP(x:Sheet):(bR x).length=5:=rfl
def Wd(x:Sheet):(bR x).getD 0 .any=.v (.bool x.rest):=rfl
def VL(x:Sheet):(bR x).getD 1 .any=.v (.int .i64 x.depart):=rfl
def Wz(x:Sheet):(bR x).getD 2 .any=.sl (x.times.map Qy):=rfl
def DM(x:Sheet):(bR x).getD 3 .any=.v (.int .i64 x.stop):=rfl
def Do(x:Sheet):(bR x).getD 4 .any=.v (.int .i64 x.miles):=rfl
def zX(x:Sheet):(bR x).take 5=bR x:=rfl
attribute [go_sem] If aiH Sc ZA Vh adE fU V5 Wo Ey iZ ahX aiB aeP akI aeT alC Up Jd OY Oy Kn jH Wj U7 Vu Wl UI WM V6 VH Wi WS TD RO Ta QQ Py iC abB abD aaM abI SX uV We UN Um Uf VA WK Vx Uu V4 Vk TH TY RE P9 Rv Qa Oi KR Le nP aaJ aaA QF HI K7 Lf KQ Lb K0 KN Hw HD dG Wg UZ Oa Am WO U8 Uq Vs NH Ov T7 Wn N6 mL Lg Lh KX KK Hq cP SN Td T1 Tl Th Sn Tt KC HB lA AI Az An Ay uY Ab afQ alK aiP UB QY Y1 ZI aaF Zx abY YY Zo ZG Zz RZ Z2 iP Wd VL Wz DM Do zX
def aC{α:Type}{f:α->List AV}{l:List α}{k:Nat}{x:α}(h:l[k]?=some x):(l.map f).getD k []=f x:=by simp[List.getD,h]
def apF{α:Type}(f:α->List AV)(l:List α):(l.map f).length=l.length:=List.length_map f
def Z9(n:Nat):((n:Int)).toNat=n:=Int.toNat_natCast n
attribute [go_sem] apF Z9
theorem aU{n:Int}(h: -9223372036854775808<=n/\n<=9223372036854775807):IntKind.i64.wrap n=n:=IntWalk.i64_in n h
end Go.Aw.D
end
