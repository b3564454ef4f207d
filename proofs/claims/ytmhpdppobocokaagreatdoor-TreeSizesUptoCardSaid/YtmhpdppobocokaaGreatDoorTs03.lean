import Derived.Deep.LoopGhost
import Derived.StillTail
import Derived.Deep.Quiet
import Derived.Scope
import Derived.Test.YtmhpdppobocokaaGreatDoorTs02
set_option linter.unusedSimpArgs false
set_option linter.unusedVariables false
set_option linter.defProp false
set_option maxRecDepth 100000
section
namespace Go.Aw
open Go.RowKit
def Rel(n:Nat)(S0:Sg)(w0:World)(H0:aD)(ρ:Env)(H:aD)(a:Act)(w:World):Prop:=
 ∃S,St S w H/\FR S w ρ a/\Grow S0 w0 S w/\dK S0.N H0 H/\a.defers=[]/\a.tmps.size=n
def Uj(n:Nat):Option Nat->Bool
 | some d=>decide (d<n)
 | none=>true
def fZ(n:Nat)(o:Oper):Bool:=o.op.operands.all (opB n)&&Uj n o.dst
section
variable{P:Program}{n:Nat}{S0:Sg}{w0:World}{H0:aD}{mt:Nat->Bool}{ops:Array Oper}
def qF{o:Oper}(h:fZ n o=true):(∀x∈o.op.operands,opB n x=true)/\Uj n o.dst=true:=by simp only[fZ,Bool.and_eq_true]at h;exact⟨fun x u=>Array.all_eq_true_iff_forall_mem.1 h.1 x u,h.2⟩
def tE(a:Act)(d:Option Nat)(v:Value):(a.put d v).tmps.size=a.tmps.size:=by cases d <;> simp[Act.put]
def kN(a:Act)(d:Option Nat)(v:Value):(a.put d v).defers=a.defers:=by cases d <;> simp[Act.put]
def qN{S:Sg}{w:World}{ρ:Env}{a:Act}{o:Oper}{K:Option Bool->Prop}(L:∀o∈ops,fZ n o=true)(hF:FR S w ρ a)(hn:a.tmps.size=n)(h:bN ops ρ o.guard K):
  ∃G,K G/\(Region.wanted o (yielded ops a.tmps)=true↔gt G):=by
 unfold bN at h;unfold Region.wanted;cases hg:o.guard with
 | none=>rw[hg]at h;exact⟨none,h,by simp[gt]⟩
 | some jw=>
  obtain⟨j,u⟩:=jw;rw[hg]at h;simp only at h;cases J:(ops[j]?).bind (·.dst)with
  | none=>rw[J]at h;exact h.elim
  | some t=>
   rw[J]at h;simp only at h;have M:t<a.tmps.size:=by
    cases Z:ops[j]? with
    | none=>simp[Z]at J
    | some oj=>simp[Z]at J;have:=(qF (L oj (Array.mem_of_getElem? Z))).2;rw[J]at this;simpa[Uj,hn]using this
   have E:yielded ops a.tmps j=match a.tmps.getD t undef with| .bool b=>some b|_=>none:=by
    unfold yielded;rw[J];have e:a.tmps.getD t undef=a.tmps[t]:=by simp[Array.getD,M]
    rw[e];simp only[Option.bind_some,Array.getElem?_eq_getElem M];cases a.tmps[t] <;> rfl
   have F:=hF t M;split at h
   ·rename_i b O;rw[O]at F;simp only[rep]at F;rw[F]at E;refine⟨_,h,?_⟩;simp only[E,gt];cases b <;> cases u <;> simp
   ·rename_i g b O;rw[O]at F;simp only[rep]at F;refine⟨_,h,?_⟩;cases g with
    | true=>rw[F.1 rfl]at E;simp only[E,gt];cases b <;> cases u <;> simp
    | false=>rw[F.2 rfl]at E;simp[undef]at E;simp[E,gt]
   ·exact h.elim
def dA{S:Sg}{w:World}{G:Option Bool}{z:AV}(h:¬gt G):rep S w (wr G z) undef:=by
 cases G with
 | none=>exact absurd trivial h
 | some b=>
  have:b=false:=by simpa[gt]using h
  subst this;simp[wr,rep]
def dP{S:Sg}{w:World}{G:Option Bool}{z:AV}{v:Value}(h:gt G)(u:rep S w z v):rep S w (wr G z) v:=by
 cases G with
 | none=>exact u
 | some b=>have:b=true:=h;subst this;simpa[wr,rep]using u
end
section
variable{P:Program}{n:Nat}{S0:Sg}{w0:World}{H0:aD}{mt:Nat->Bool}{ops:Array Oper}{K:Env->aD->Prop}{K':Act->World->Prop}{Q':Exit->Act->World->Prop}{ρ:Env}{H:aD}{a:Act}{w:World}{o:Oper}{S:Sg}
def rW(P:Program)(ops:Array Oper)(o:Oper)(a:Act)(w:World)(K':Act->World->Prop)(Q':Exit->Act->World->Prop):Prop:=
 (Region.wanted o (yielded ops a.tmps)=true->o.wp P a w K' Q')/\(Region.wanted o (yielded ops a.tmps)=false->K' (a.put o.dst undef) w)
def cO{v:Value}{w':World}(h:(execOp a.eval o).run P w=.ok (.value v) w')(u:K' (a.put o.dst v) w'):o.wp P a w K' Q':=by unfold Oper.wp;rw[h];exact u
def Rel.step(Z:St S w H)(hF:FR S w ρ a)(J:Grow S0 w0 S w)(hN:dK S0.N H0 H)(O:a.defers=[])(L:a.tmps.size=n){S':Sg}{w':World}{H':aD}{z:AV}{v:Value}{d:Option Nat}
  (F:St S' w' H') (u:Grow S w S' w') (E:dK S.N H H') (M:rep S' w' z v):Rel n S0 w0 H0 (upd ρ d z) H' (a.put d v) w':=
 ⟨S',F,FR.put (hF.keep u.le (u.kept Z)) M,J.trans u,hN.trans E J.le.N,by rw[kN];exact O,by rw[tE];exact L⟩
def mG(J:St S w H)(hF:FR S w ρ a)(hG:Grow S0 w0 S w)(hN:dK S0.N H0 H)(Z:a.defers=[])(M:a.tmps.size=n)(hb:∀x∈o.op.operands,opB n x=true){G:Option Bool}
  (E:Region.wanted o (yielded ops a.tmps)=true↔gt G) (O:∀F H' a' w',K F H'->Rel n S0 w0 H0 F H' a' w'->K' a' w') (h:eR P G ρ H o.op fun x=>K (upd ρ o.dst (wr G x)) H):
  rW P ops o a w K' Q':=by
 obtain⟨z,hz,hg⟩:=zP (M▸hb) hF J.rows h;refine⟨fun L=>?_,fun L=>?_⟩
 ·have u:=E.1 L;obtain⟨v,hv,hr⟩:=hg u;exact cO (hr w (Agree.refl S H w) o rfl) (O _ _ _ _ hz (Rel.step J hF hG hN Z M J (Grow.refl S w) (dK.refl _ _) (dP u hv)))
 ·have u:¬gt G:=fun h=>by rw[E.2 h]at L;simp at L
  exact O _ _ _ _ hz (Rel.step J hF hG hN Z M J (Grow.refl S w) (dK.refl _ _) (dA u))
def jR(E:St S w H){r:Option Row}:dK S.N H (aE H S.N r):=fun k u h=>by rw[aC _ _ _ _ (Nat.ne_of_lt u)];exact h
def RP(t:TypeId)(v:Value)(w:World):(Instr.box t v).run P w=.ok (.pointer (some ⟨w.heap.size,0,none⟩)) (w.alloc (.cells v.cells t)):=by simp[Instr.box,newVar,newRow]
def Nj{t:TypeId}{z:List AV}(h:cN P t=some z)(E:Value)(w:World):∃(v:Value) (i:TypeInfo),P.info? t=some i/\z=v.cells.toList.map lA/\(∀u∈v.cells.toList,u.oneCell'=true)/\v.cells.size≠0 /\
  (Instr.alloc t true E).run P w=.ok (.pointer (some ⟨w.heap.size,0,none⟩)) (w.alloc (.cells v.cells t)):=by
 obtain⟨i,v,hi,M,J,L,F,h1⟩:=iW h;refine⟨v,i,hi,J,h1,by rw[L];exact F,?_⟩;simp[Instr.alloc,zeroValue,typeInfo,hi,M,newVar,newRow]
def xP(L:St S w H){t:TypeId}{cs:List AV}{l:List Value}(E:0<cs.length)(F:aR S w cs l)(h1:∀u∈l,u.oneCell'=true):
  ∃S',St S' (w.alloc (.cells l.toArray t)) (aE H S.N (some ⟨t,cs.length,[cs]⟩))/\Grow S w S' (w.alloc (.cells l.toArray t))/\rep S' (w.alloc (.cells l.toArray t)) (.op S.N 0 0) (.pointer (some ⟨w.heap.size,0,none⟩)):=by
 have J:=eF _ _ F;have:=L.newRow (e:=t) (sz:=cs.length) (cap:=1) (es:=[cs]) (xs:=l) (cur:=l.toArray) E (by simp) (by simpa using F) h1 (by simp) (by simp[maxLen]) (by simp[J]) (by simp[<-J]) (w':=w.alloc (.cells l.toArray t)) rfl rfl rfl rfl;refine⟨_,this.1,this.2,?_⟩;simp only[rep,Sg.addRow];exact⟨Nat.lt_succ_self _,w.heap.size,1,1,by simp,by simp⟩
def Bi:∀(i n:Nat),FI i n=List.range' i n
 | _,0=>rfl
 | i,n+1=>by simp[FI,List.range'_succ,Bi (i+1) n]
def D0{sz n:Nat}:∀(l:List (Nat×List AV)) (vs:List (Nat×Value)) (i:Nat) (A:Array Value),l.map (·.1)=FI i l.length->cT sz (l.map (·.2))->l.length=vs.length ->
  (∀(j k:Nat) (c:List AV),l[j]?=some (k,c)->∃(v:Value) (l':List Value),vs[j]?=some (k,v)/\v.cells=List.toArray l'/\aR S w c l'/\∀u∈l',u.oneCell'=true)->A.size=n*sz->i+l.length=n ->
  ∃xs:List Value,Instr.fill (fun i=>some (i*sz,sz)) A vs=some (A.toList.take (i*sz)++xs).toArray/\aR S w (l.map (·.2)).flatten xs/\∀u∈xs,u.oneCell'=true
 | [],vs,i,A,_,_,hl,_,hA,hi=>by
  have:vs=[]:=List.eq_nil_of_length_eq_zero (by simpa using hl.symm);subst this;refine⟨[],?_,by simp[aR],by simp⟩;simp only[Instr.fill,List.append_nil];have:i=n:=by simpa using hi
  subst this;rw[List.take_of_length_le (by simp[hA])]
 | (k,c)::rest,vs,i,A,E,hlen,hl,hv,hA,hi=>by
  simp only[List.map_cons,List.length_cons,FI,List.cons.injEq]at E;obtain⟨rfl,E⟩:=E;simp only[List.map_cons,cT]at hlen;obtain⟨v,l',M,e2,O,e4⟩:=hv 0 k c (by simp);cases vs with
  | nil=>simp at M
  | cons q vs=>
   simp at M;subst M;have F:l'.length=sz:=by rw[eF _ _ O];exact hlen.1
   simp only[List.length_cons]at hi;have hm:(k+1)*sz<=n*sz:=Nat.mul_le_mul_right _ (by omega);rw[Nat.add_mul,Nat.one_mul]at hm;have Z:=yO l' 0 A (k*sz) (by rw[F,hA];omega);simp only[Nat.add_zero]at Z;obtain⟨xs,f1,f2,f3⟩:=D0 (n:=n) rest vs (k+1) (A.toList.take (k*sz)++l'++A.toList.drop (k*sz+l'.length)).toArray E hlen.2 (by simpa using hl) (fun j i c hj=>by simpa using hv (j+1) i c (by simpa using hj))
    (by simp only[List.size_toArray,List.length_append,List.length_take,List.length_drop,Array.length_toList,F,hA];omega) (by omega)
   refine⟨l'++xs,?_,?_,?_⟩
   ·simp only[Instr.fill,e2,List.size_toArray,F];rw[if_neg (by simp[hA];omega)];have J:(Array.foldl (fun cs (x:Value×Nat)=>cs.setIfInBounds (k*sz+x.2) x.1) A l'.toArray.zipIdx)=(A.toList.take (k*sz)++l'++A.toList.drop (k*sz+l'.length)).toArray:=by rw[<-Z,<-Array.foldl_toList];simp
    rw[J,f1]
    congr 2
    have e5:List.take ((k+1)*sz) (A.toList.take (k*sz)++l'++A.toList.drop (k*sz+l'.length))=A.toList.take (k*sz)++l':=by rw[Nat.add_mul,Nat.one_mul,List.take_append_of_le_length (by rw[List.length_append,List.length_take,Array.length_toList,F,hA];omega),List.take_of_length_le (by rw[List.length_append,List.length_take,Array.length_toList,F,hA];omega)]
    rw[e5,List.append_assoc]
   ·simp only[List.map_cons,List.flatten_cons];exact cA _ _ _ _ O f2
   ·intro u L;rcases List.mem_append.1 L with L|L
    ·exact e4 u L
    ·exact f3 u L
def BC{t e:TypeId}{sz O:Nat}(he:bM P t=some (e,sz,O)){l:List (Nat×List AV)}{E:Array (Nat×Value)}{m:Nat}(M:l.map (·.1)=FI 0 m)(L:cT sz (l.map (·.2)))(hl:l.length=E.toList.length)
  (hv:∀(j k:Nat) (c:List AV),l[j]?=some (k,c)->∃(v:Value) (l':List Value),E.toList[j]?=some (k,v)/\v.cells=List.toArray l'/\aR S w c l'/\∀u∈l',u.oneCell'=true) (hm:m*sz<=16777216):
  ∃xs:List Value,(Instr.buildSlice t m E).run P w=.ok (.slice (some ⟨w.heap.size,0,none⟩) m m) (w.alloc (.cells xs.toArray e))/\aR S w (l.map (·.2)).flatten xs/\(∀u∈xs,u.oneCell'=true)/\l.length=m/\xs.length=m*sz:=by
 obtain⟨J,z,hu,hi,rfl,_,af,_,hz,ag⟩:=dU he;have Z:l.length=m:=by have:=congrArg List.length M;simpa[Bi]using this
 have F:∀xs:List Value,aR S w (l.map (·.2)).flatten xs->xs.length=m*J.size:=fun xs h=>by rw[eF _ _ h,iT _ (eH.1 L),List.length_map,Z]
 subst Z;obtain⟨xs,f1,f2,f3⟩:=D0 (n:=l.length) l E.toList 0 ((Array.range (l.length*J.size)).map (z.cells[·%z.cells.size]!)) M L hl hv (by simp) (by simp);simp only[Nat.zero_mul,List.take_zero,List.nil_append]at f1;refine⟨xs,?_,f2,f3,rfl,F xs f2⟩;have ab:¬l.length*J.size>2^24:=by simpa using hm
 by_cases h0:l.length*J.size=0
 ·have aa : l.length = 0 := by
   rcases Nat.mul_eq_zero.1 h0 with h|h
   ·exact h
   ·omega
  have ac:E.toList=[]:=List.eq_nil_of_length_eq_zero (by rw[<-hl,aa]);have ae:xs=[]:=List.eq_nil_of_length_eq_zero (by rw[F xs f2,h0]);subst ae;simp[Instr.buildSlice,run_underlying hu,sizeOf,typeInfo,hi,h0,ac,Instr.fill,newRow,aa];have:(Array.range 0).map (fun _=>(default:Value))=#[]:=Array.eq_empty_of_size_eq_zero (by simp);rw[this]
 ·simp[Instr.buildSlice,run_underlying hu,sizeOf,typeInfo,hi,ab,h0,zeroValue,hz,newRow];rw[f1];simp
end
end Go.Aw
end
section
namespace Go.Aw
open Go.RowKit
section
variable{P:Program}{n:Nat}{S0:Sg}{w0:World}{H0:aD}{mt:Nat->Bool}{ops:Array Oper}{K:Env->aD->Prop}{K':Act->World->Prop}{Q':Exit->Act->World->Prop}{ρ:Env}{H:aD}{a:Act}{w:World}{o:Oper}{S:Sg}
def cH{G:Option Bool}(u:Region.wanted o (yielded ops a.tmps)=true↔gt G)(E:G=none):Region.wanted o (yielded ops a.tmps)=true:=by subst E;exact u.2 trivial
def Ht{f:FuncId}(h:aG P f=true):∃fn,P.funcs[f]?=some fn/\(fn.name == "runtime.NumGoroutine")=false/\fn.body.isNone=false:=by
 unfold aG at h;split at h
 . rename_i fn u;simp only[Bool.and_eq_true,bne_iff_ne,ne_eq]at h;refine⟨fn,u,by simpa using h.1,?_⟩;cases E:fn.body <;> simp_all
 . simp at h
def lW{f:FuncId}(h:aG P f=true)(args:Array Value)(w:World):(callFunc f args).run P w=.ok (.enter f args) w:=by
 obtain⟨fn,h1,J,F⟩:=Ht h;have E:¬fn.name = "runtime.NumGoroutine" := by simpa using J
 have u:¬fn.body=none:=fun e=>by rw[e]at F;simp at F
 simp[callFunc,h1,E,u]
def dT(u:Region.wanted o (yielded ops a.tmps)=true)(h:o.wp P a w K' Q'):rW P ops o a w K' Q':=⟨fun _=>h,fun e=>by rw[u]at e;simp at e⟩
def EW:∀(l:List Value),aR S w (l.map .v) l
 | []=>by simp[aR]
 | v::r=>by simp only[List.map_cons,aR];exact⟨v,r,rfl,gM,EW r⟩
def uV{x:AV}{g:FuncId}{J F:List AV}{u:Value}(h:GW x=some (g,J,F))(L:rep S w x u):
  ∃first E:Array Value,u=.func (.func g) first E/\aR S w J first.toList/\aR S w F E.toList:=by
 unfold GW at h;split at h
 ·rename_i f first E
  simp only[Option.some.injEq,Prod.mk.injEq]at h;obtain⟨rfl,rfl,rfl⟩:=h;simp only[rep]at L;exact⟨first,E,L,EW _,EW _⟩
 ·rename_i f cap;simp only[Option.some.injEq,Prod.mk.injEq]at h;obtain⟨rfl,rfl,rfl⟩:=h;simp only[rep]at L;obtain⟨l,rfl,M⟩:=L;exact⟨#[],l.toArray,rfl,by simp[aR],by simpa using M⟩
 ·simp at h
def jV{c:Call}{f:Operand}(E:c.callee=.value f){g:FuncId}{first u:Array Value}(F:a.eval f=.func (.func g) first u)(ty:TypeId):
  resolve a.eval c ty=pure { target:=.fn (.func g) u,args:=first++c.args.map a.eval }:=by
 unfold resolve;simp only[E];rw[F];rfl
def Io{nl au:Bool}{G:Option Bool}{c:Call}(J:St S w H)(hF:FR S w ρ a)(hG:Grow S0 w0 S w)(hN:dK S0.N H0 H)(hd:a.defers=[])(hn:a.tmps.size=n)(ho:o.op=.call c)(hb:∀x∈o.op.operands,opB n x=true)
   (ah:Region.wanted o (yielded ops a.tmps)=true↔gt G) (hK:∀bb H' a' w',K bb H'->Rel n S0 w0 H0 bb H' a' w'->K' a' w') (h:wM P (aI P) (dV P) nl au G o c ρ H K):rW P ops o a w K' Q':=by
 rw[ho]at hb;simp only[Op.operands,Call.operands]at hb;unfold wM at h;split at h
 . rename_i b hc;obtain⟨ys,h2,an⟩:=jF hF c.args.toList (fun x hx=>hn▸hb x (by simp[Array.mem_toList_iff.1 hx])) h;clear h;have h:=h2;clear h2;split at h
   . rename_i x t M;obtain⟨z,hz,hl⟩:=AG (G:=G) (ty:=o.type) J.rows h;refine⟨fun hw=>?_,fun hw=>?_⟩
     . have O:=ah.1 hw;have hr:=an O;simp only[aR]at hr;obtain⟨u,t',e1,e2,rfl⟩:=hr;obtain⟨v,hv,am⟩:=hl O u e2;have ea:c.args.map a.eval=#[u]:=by apply Array.toList_inj.1;simpa using e1
       have et:c.argTypes=#[t]:=Array.toList_inj.1 (by simpa using M);refine cO (v:=v) (w':=w) ?_ (hK _ _ _ _ hz (Rel.step J hF hG hN hd hn J (Grow.refl S w) (dK.refl _ _) (dP O hv)));simp[execOp,ho,resolve,hc,invoke,builtin,ea,et,am w (Agree.refl S H w)]
     . have O:¬gt G:=fun h=>by rw[ah.2 h]at hw;simp at hw
       exact hK _ _ _ _ hz (Rel.step J hF hG hN hd hn J (Grow.refl S w) (dK.refl _ _) (dA O))
   . rename_i s x t t' M;split at h
     . rename_i af;obtain⟨bp,al,_⟩:=af;subst al;subst bp;have hw:=cH ah rfl;refine dT hw ?_;have hr:=an trivial;simp only[aR]at hr;obtain⟨us,t1,e1,e2,ux,t2,rfl,e3,rfl⟩:=hr;have ea:c.args.map a.eval=#[us,ux]:=Array.toList_inj.1 (by simpa using e1);have et:c.argTypes=#[t,t]:=Array.toList_inj.1 (by simpa using M);unfold tX at h;split at h
       . rename_i k e sz ac he;split at h
         . rename_i r hk;have app : ∀ news, nS S w ux news -> ((r.e = e /\ r.sz = sz /\ cT sz news /\ (r.es.length + news.length) * ac <= 140737488355328) /\
               ∀k',H k'=none->K (upd ρ o.dst (.os k')) (aE (aE H k none) k' (some ⟨e,sz,r.es++news⟩)))->o.wp P a w K' Q':=by
             rintro news ae ⟨⟨rfl,rfl,ak,ag⟩,ao⟩;simp only[rep]at e2;obtain⟨bu,rfl,_,_,_,a9⟩:=e2;obtain⟨v',w',q1,q2,q3,q4⟩:=J.append hk a9 (ty:=o.type) he ae ak ag;refine cO (v:=v') (w':=w') ?_ (hK _ _ _ _ (ao S.N J.fresh) (Rel.step J hF hG hN hd hn q3 q4 ?_ ?_))
             . simp[execOp,ho,resolve,hc,invoke,builtin,ea,et,q1]
             . intro j hj h0;rw[aC _ _ _ _ (Nat.ne_of_lt hj)];by_cases e:j=k
               . subst e;exact aB _ _ _
               . rw[aC _ _ _ _ e];exact h0
             . simp only[rep,Sg.addRow,if_true];exact⟨Nat.lt_succ_self _,trivial,q2⟩
           unfold qD at h;split at h
           . exact app _ (yA e3) h
           . rename_i k2;split at h
             . rename_i r2 Z;simp only[rep]at e3;obtain⟨_,rfl,_,_,_,aa⟩:=e3;exact app _ (xJ (J.rows k2 r2 Z) aa) h
             . exact h.elim
           . rename_i k2 a2 b2;split at h
             . rename_i r2 Z;exact app _ (sF (J.rows k2 r2 Z) e3).1 h
             . exact h.elim
           . exact h.elim
         . exact h.elim
       . rename_i es e sz ac he;have app : ∀ news, nS S w ux news -> ((news ≠ [] /\ cT sz es /\ cT sz news /\ (es.length + news.length) * ac <= 140737488355328) /\
             ∀k',H k'=none->K (upd ρ o.dst (.os k')) (aE H k' (some ⟨e,sz,es++news⟩)))->o.wp P a w K' Q':=by
           rintro news ae ⟨⟨az,a8,ak,ag⟩,ao⟩;obtain⟨v',w',q1,q2,q3,q4⟩:=J.appendNew e2 (ty:=o.type) he ae az a8 ak ag;refine cO (v:=v') (w':=w') ?_ (hK _ _ _ _ (ao S.N J.fresh) (Rel.step J hF hG hN hd hn q3 q4 ?_ ?_))
           . simp[execOp,ho,resolve,hc,invoke,builtin,ea,et,q1]
           . intro j hj h0;rw[aC _ _ _ _ (Nat.ne_of_lt hj)];exact h0
           . simp only[rep,Sg.addRow,if_true];exact⟨Nat.lt_succ_self _,trivial,q2⟩
         unfold qD at h;split at h
         . exact app _ (yA e3) h
         . rename_i k2;split at h
           . rename_i r2 Z;simp only[rep]at e3;obtain⟨_,rfl,_,_,_,aa⟩:=e3;exact app _ (xJ (J.rows k2 r2 Z) aa) h
           . exact h.elim
         . rename_i k2 a2 b2;split at h
           . rename_i r2 Z;exact app _ (sF (J.rows k2 r2 Z) e3).1 h
           . exact h.elim
         . exact h.elim
       . rename_i k a0 b0 e sz ac he;split at h
         . rename_i r hk;have app : ∀ news, nS S w ux news -> ((r.e = e /\ r.sz = sz /\ news ≠ [] /\ cT sz news /\ b0 = r.es.length /\ (r.es.length + news.length) * ac <= 140737488355328) /\
               ∀(k':Nat) (ap:List (List AV)),ap.length<=a0->H k'=none->K (upd ρ o.dst (.oz k' ap.length (ap.length+(b0-a0)+news.length))) (aE (aE H k none) k' (some ⟨e,sz,ap++(r.es.drop a0++news)⟩)))->o.wp P a w K' Q':=by
             rintro news ae ⟨⟨rfl,rfl,az,ak,hb,ag⟩,ao⟩;obtain⟨v',w',vl,ap,q1,q3,q4,q5,q6⟩:=J.appendOz hk e2 (ty:=o.type) he ae az hb ak ag;refine cO (v:=v') (w':=w') ?_ (hK _ _ _ _ (ao S.N ap q6 J.fresh) (Rel.step J hF hG hN hd hn q3 q4 ?_ q5))
             . simp[execOp,ho,resolve,hc,invoke,builtin,ea,et,q1]
             . intro j hj h0;rw[aC _ _ _ _ (Nat.ne_of_lt hj)];by_cases e:j=k
               . subst e;exact aB _ _ _
               . rw[aC _ _ _ _ e];exact h0
           unfold qD at h;split at h
           . exact app _ (yA e3) h
           . rename_i k2;split at h
             . rename_i r2 Z;simp only[rep]at e3;obtain⟨_,rfl,_,_,_,aa⟩:=e3;exact app _ (xJ (J.rows k2 r2 Z) aa) h
             . exact h.elim
           . rename_i k2 a2 b2;split at h
             . rename_i r2 Z;exact app _ (sF (J.rows k2 r2 Z) e3).1 h
             . exact h.elim
           . exact h.elim
         . exact h.elim
       . rename_i e sz ac he;have bm:rep S w (.cl []) us:=by
           have hu:us=.slice none 0 0:=by simp only[rep]at e2;exact e2
           subst hu;simp only[rep];exact⟨none,0,rfl,rfl,Nat.zero_le _,.inl trivial⟩
         have app : ∀ news, nS S w ux news -> ((news = [] /\ K (upd ρ o.dst (.v (.slice none 0 0))) H) \/ (news ≠ [] /\ cT sz ([] : List (List AV)) /\ cT sz news /\ (([] : List (List AV)).length + news.length) * ac <= 140737488355328) /\
             ∀k',H k'=none->K (upd ρ o.dst (.os k')) (aE H k' (some ⟨e,sz,[]++news⟩)))->o.wp P a w K' Q':=by
           rintro news ae (⟨rfl,h0⟩|⟨⟨az,a8,ak,ag⟩,ao⟩)
           . obtain⟨br,z,ba,hi,_⟩:=dU he;obtain⟨ad,c,l,rfl,_⟩:=ae;have hu:us=.slice none 0 0:=by simp only[rep]at e2;exact e2
             subst hu;refine cO (v:=.slice none 0 0) (w':=w) ?_ (hK _ _ _ _ h0 (Rel.step J hF hG hN hd hn J (Grow.refl S w) (dK.refl _ _) e2));simp[execOp,ho,resolve,hc,invoke,builtin,ea,et,nD (b:=none) (ad:=ad) (c2:=c) (ty:=o.type) ba hi (Nat.le_refl 0)]
           obtain⟨v',w',q1,q2,q3,q4⟩:=J.appendNew bm (ty:=o.type) he ae az a8 ak ag;refine cO (v:=v') (w':=w') ?_ (hK _ _ _ _ (ao S.N J.fresh) (Rel.step J hF hG hN hd hn q3 q4 ?_ ?_))
           . simp[execOp,ho,resolve,hc,invoke,builtin,ea,et,q1]
           . intro j hj h0;rw[aC _ _ _ _ (Nat.ne_of_lt hj)];exact h0
           . simp only[rep,Sg.addRow,if_true];exact⟨Nat.lt_succ_self _,trivial,q2⟩
         unfold qD at h;split at h
         . exact app _ (yA e3) h
         . rename_i k2;split at h
           . rename_i r2 Z;simp only[rep]at e3;obtain⟨_,rfl,_,_,_,aa⟩:=e3;exact app _ (xJ (J.rows k2 r2 Z) aa) h
           . exact h.elim
         . rename_i k2 a2 b2;split at h
           . rename_i r2 Z;exact app _ (sF (J.rows k2 r2 Z) e3).1 h
           . exact h.elim
         . exact h.elim
       . rename_i es e' he;have app:∀news,nS S w ux news->(news=[]/\K (upd ρ o.dst (.sl es)) H)->o.wp P a w K' Q':=by rintro news ae ⟨rfl,h0⟩;obtain⟨e,sz,ac⟩:=e';obtain⟨br,z,ba,hi,_⟩:=dU he;obtain⟨ad,c,l,rfl,_⟩:=ae;have e4:=e2;simp only[rep]at e2;obtain⟨bg,n2,c2,rfl,bv,bt,_⟩:=e2;refine cO (v:=.slice bg n2 c2) (w':=w) ?_ (hK _ _ _ _ h0 (Rel.step J hF hG hN hd hn J (Grow.refl S w) (dK.refl _ _) e4));simp[execOp,ho,resolve,hc,invoke,builtin,ea,et,nD (b:=bg) (ad:=ad) (c2:=c) (ty:=o.type) ba hi bt]
         unfold qD at h;split at h
         . exact app _ (yA e3) h
         . rename_i k2;split at h
           . rename_i r2 Z;simp only[rep]at e3;obtain⟨_,rfl,_,_,_,aa⟩:=e3;exact app _ (xJ (J.rows k2 r2 Z) aa) h
           . exact h.elim
         . rename_i k2 a2 b2;split at h
           . rename_i r2 Z;exact app _ (sF (J.rows k2 r2 Z) e3).1 h
           . exact h.elim
         . exact h.elim
       . exact h.elim
     . exact h.elim
   . rename_i x y t t' M;split at h
     . rename_i af;obtain⟨al,_⟩:=af;subst al;have hw:=cH ah rfl;refine dT hw ?_;have hr:=an trivial;simp only[aR]at hr;obtain⟨us,t1,e1,e2,ux,t2,rfl,e3,rfl⟩:=hr;have ea:c.args.map a.eval=#[us,ux]:=Array.toList_inj.1 (by simpa using e1);have et:c.argTypes=#[t,t']:=Array.toList_inj.1 (by simpa using M);have go : ∀ k a0 n0 r, H k = some r -> a0 + n0 <= r.es.length -> (∃ ad cc, us = .slice ad n0 cc /\ (0 < n0 -> ∃ g n' c', S.loc k = .slice (some ⟨g, 0, none⟩) n' c' /\ ad = some ⟨g, a0 * r.sz, none⟩)) -> ∀ news, nS S w ux news ->
           (match bM P t with
             | some (_,sz,_)=>(r.sz=sz/\cT sz news)/\K (upd ρ o.dst (.v (.int .i64 (min news.length n0:Nat)))) (aE H k (some { r with es:=r.es.take a0++news.take (min news.length n0)++r.es.drop (a0+min news.length n0) }))
             | none=>False)->o.wp P a w K' Q':=by
         intro k a0 n0 r hk a7 hx news ae ai;split at ai
         . rename_i e sz ac he;obtain⟨⟨h1,h2⟩,h3⟩:=ai;obtain⟨w',q1,q2,q3⟩:=J.copy hk (t':=t') (ty:=o.type) he h1 a7 ae h2 hx;refine cO (v:=goInt (min news.length n0:Nat)) (w':=w') ?_ (hK _ _ _ _ h3 (Rel.step J hF hG hN hd hn q2 q3 ?_ (by simp only[rep];rfl)))
           . simp[execOp,ho,resolve,hc,invoke,builtin,ea,et,q1]
           . intro j hj h0;by_cases e:j=k
             . subst e;rw[hk]at h0;simp at h0
             . rw[aC _ _ _ _ e];exact h0
         . exact ai.elim
       have src:∀F:List (List AV)->Prop,qD H y F->∃news,nS S w ux news/\F news:=by
         intro F hF;unfold qD at hF;split at hF
         . exact⟨_,yA e3,hF⟩
         . rename_i k2;split at hF
           . rename_i r2 Z;simp only[rep]at e3;obtain⟨_,rfl,_,_,_,aa⟩:=e3;exact⟨_,xJ (J.rows k2 r2 Z) aa,hF⟩
           . exact hF.elim
         . rename_i k2 a2 b2;split at hF
           . rename_i r2 Z;exact⟨_,(sF (J.rows k2 r2 Z) e3).1,hF⟩
           . exact hF.elim
         . exact hF.elim
       unfold LS JA at h;split at h
       . rename_i k;split at h
         . rename_i r hk;obtain⟨news,hs,ai⟩:=src _ h;have hR:=J.rows k r hk;simp only[rep]at e2;obtain⟨_,rfl,ad,n,cc,ab⟩:=e2;obtain⟨xs,av,_,_⟩:=hR.sl ab;have hn:n=r.es.length/\(0<r.es.length->∃g,ad=some ⟨g,0,none⟩):=by
             rcases av.2 with⟨hv,h0⟩|⟨g,cap,cur,hv,_⟩
             . rw[ab]at hv;injection hv with _ h2 _;exact⟨by omega,fun h=>by omega⟩
             . rw[ab]at hv;injection hv with h1 h2 _;exact⟨h2,fun _=>⟨g,h1⟩⟩
           refine go k 0 r.es.length r hk (by omega) ⟨ad,cc,by rw[ab,hn.1],fun hp=>?_⟩ news hs ai;obtain⟨g,rfl⟩:=hn.2 hp;exact⟨g,n,cc,ab,by simp⟩
         . exact h.elim
       . rename_i k a0 b0;split at h
         . rename_i r hk;obtain⟨news,hs,ai⟩:=src _ h;have hR:=J.rows k r hk;obtain⟨_,hb,bo⟩:=sF hR e2;simp only[rep]at e2;obtain⟨_,ad,n,c0,a6,cc,ab,rfl,bd,bj,aw,_,bc,_⟩:=e2;refine go k a0 (b0-a0) r hk (by omega) ⟨a6,cc,rfl,fun hp=>?_⟩ news hs ai;obtain⟨g,rfl,rfl⟩:=aw (by omega);exact⟨g,n,c0,ab,by rw[hR.sz]⟩
         . exact h.elim
       . exact h.elim
     . exact h.elim
   . rename_i x t M;split at h
     . rename_i af;obtain⟨al,_⟩:=af;subst al;have hw:=cH ah rfl;refine dT hw ?_;have hr:=an trivial;simp only[aR]at hr;obtain⟨us,t1,e1,e2,rfl⟩:=hr;have ea:c.args.map a.eval=#[us]:=Array.toList_inj.1 (by simpa using e1);have et:c.argTypes=#[t]:=Array.toList_inj.1 (by simpa using M);have go : ∀ k a0 n0 r, H k = some r -> a0 + n0 <= r.es.length -> (∃ ad cc, us = .slice ad n0 cc /\ (0 < n0 -> ∃ g n' c', S.loc k = .slice (some ⟨g, 0, none⟩) n' c' /\ ad = some ⟨g, a0 * r.sz, none⟩)) ->
           (match bM P t with
             | some (e,sz,_)=>match cN P e with
               | some zs=>r.sz=sz/\K (upd ρ o.dst .any) (aE H k (some { r with es:=r.es.take a0++List.replicate n0 zs++r.es.drop (a0+n0) }))
               | none=>False
             | none=>False)->o.wp P a w K' Q':=by
         intro k a0 n0 r hk a7 hx ai;split at ai
         . rename_i e sz ac he;split at ai
           . rename_i zs bs;obtain⟨h1,h3⟩:=ai;obtain⟨w',q1,q2,q3⟩:=J.clear hk (ty:=o.type) he bs h1 a7 hx;refine cO (v:=.tuple #[]) (w':=w') ?_ (hK _ _ _ _ h3 (Rel.step J hF hG hN hd hn q2 q3 ?_ (by simp only[rep])))
             . simp[execOp,ho,resolve,hc,invoke,builtin,ea,et,q1]
             . intro j hj h0;by_cases e:j=k
               . subst e;rw[hk]at h0;simp at h0
               . rw[aC _ _ _ _ e];exact h0
           . exact ai.elim
         . exact ai.elim
       unfold KH JA at h;split at h
       . rename_i k;split at h
         . rename_i r hk;have hR:=J.rows k r hk;simp only[rep]at e2;obtain⟨_,rfl,ad,n,cc,ab⟩:=e2;obtain⟨xs,av,_,_⟩:=hR.sl ab;have hn:n=r.es.length/\(0<r.es.length->∃g,ad=some ⟨g,0,none⟩):=by
             rcases av.2 with⟨hv,h0⟩|⟨g,cap,cur,hv,_⟩
             . rw[ab]at hv;injection hv with _ h2 _;exact⟨by omega,fun h=>by omega⟩
             . rw[ab]at hv;injection hv with h1 h2 _;exact⟨h2,fun _=>⟨g,h1⟩⟩
           refine go k 0 r.es.length r hk (by omega) ⟨ad,cc,by rw[ab,hn.1],fun hp=>?_⟩ h;obtain⟨g,rfl⟩:=hn.2 hp;exact⟨g,n,cc,ab,by simp⟩
         . exact h.elim
       . rename_i k a0 b0;split at h
         . rename_i r hk;have hR:=J.rows k r hk;obtain⟨_,hb,bo⟩:=sF hR e2;simp only[rep]at e2;obtain⟨_,ad,n,c0,a6,cc,ab,rfl,bd,bj,aw,_,bc,_⟩:=e2;refine go k a0 (b0-a0) r hk (by omega) ⟨a6,cc,rfl,fun hp=>?_⟩ h;obtain⟨g,rfl,rfl⟩:=aw (by omega);exact⟨g,n,c0,ab,by rw[hR.sz]⟩
         . exact h.elim
       . exact h.elim
     . exact h.elim
   . rename_i x y t t' M;obtain⟨z,hz,hl⟩:=BZ (P:=P) (S:=S) (w:=w) (H:=H) (G:=G) (tys:=c.argTypes) (ty:=o.type) h;refine⟨fun hw=>?_,fun hw=>?_⟩
     . have O:=ah.1 hw;have hr:=an O;simp only[aR]at hr;obtain⟨us,t1,e1,e2,ux,t2,rfl,e3,rfl⟩:=hr;obtain⟨v,hv,am⟩:=hl O us ux e2 e3;have ea:c.args.map a.eval=#[us,ux]:=Array.toList_inj.1 (by simpa using e1);refine cO (v:=v) (w':=w) ?_ (hK _ _ _ _ hz (Rel.step J hF hG hN hd hn J (Grow.refl S w) (dK.refl _ _) (dP O hv)));simp[execOp,ho,resolve,hc,invoke,builtin,ea,am w (Agree.refl S H w)]
     . have O:¬gt G:=fun h=>by rw[ah.2 h]at hw;simp at hw
       exact hK _ _ _ _ hz (Rel.step J hF hG hN hd hn J (Grow.refl S w) (dK.refl _ _) (dA O))
   . rename_i x y t t' M;obtain⟨z,hz,hl⟩:=AZ (P:=P) (S:=S) (w:=w) (H:=H) (G:=G) (tys:=c.argTypes) (ty:=o.type) h;refine⟨fun hw=>?_,fun hw=>?_⟩
     . have O:=ah.1 hw;have hr:=an O;simp only[aR]at hr;obtain⟨us,t1,e1,e2,ux,t2,rfl,e3,rfl⟩:=hr;obtain⟨v,hv,am⟩:=hl O us ux e2 e3;have ea:c.args.map a.eval=#[us,ux]:=Array.toList_inj.1 (by simpa using e1);refine cO (v:=v) (w':=w) ?_ (hK _ _ _ _ hz (Rel.step J hF hG hN hd hn J (Grow.refl S w) (dK.refl _ _) (dP O hv)));simp[execOp,ho,resolve,hc,invoke,builtin,ea,am w (Agree.refl S H w)]
     . have O:¬gt G:=fun h=>by rw[ah.2 h]at hw;simp at hw
       exact hK _ _ _ _ hz (Rel.step J hF hG hN hd hn J (Grow.refl S w) (dK.refl _ _) (dA O))
   . exact h.elim
 . rename_i f hc;obtain⟨yf,h2,hf⟩:=aK (S:=S) (w:=w) h;clear h;have h:=h2;clear h2;split at h
   . rename_i g bi bh bf;by_cases bk:nl=true
     . rw[if_pos bk]at h;obtain⟨al,bw,a5,h⟩:=h;have hw:=ah.2 al;obtain⟨first,E,a4,h2,h3⟩:=uV bf (hf al _ (bQ hF (hn▸hb f (by simp[hc]))));have aq:aR S w (bi++c.args.toList.map (FD ρ)++bh) (first++c.args.map a.eval++E).toList:=by simp only[Array.toList_append];refine cA _ _ _ _ (cA _ _ _ _ h2 ?_) h3;have:=zH hF c.args.toList (fun x hx=>hn▸hb x (by simp[hc,Array.mem_toList_iff.1 hx]));simpa using this
       have aj:(execOp a.eval o).run P w=.ok (.enter g (first++c.args.map a.eval++E)) w:=by simp only[execOp,ho];rw[jV hc a4];simp[invoke,lW a5]
       refine dT hw ?_;have L:=h S w _ J aq;unfold Oper.wp;rw[aj];simp only[Oper.upon,Array.toArray_toList]at L |-;refine L.mono fun e w' ⟨v,r,H',S',he,hr,ay,hv,ar,ax⟩=>?_
       subst he;exact hK _ _ _ _ hr (Rel.step J hF hG hN hd hn ay ar ax hv)
     rw[if_neg bk]at h;obtain⟨ys,h2,an⟩:=jF hF c.args.toList (fun x hx=>hn▸hb x (by simp[hc,Array.mem_toList_iff.1 hx])) h;clear h;obtain⟨a5,h⟩:=h2;have bq:=fun hg=>uV bf (hf hg _ (bQ hF (hn▸hb f (by simp[hc]))))
     have M:gt G->∃first E:Array Value,a.eval f=.func (.func g) first E/\aR S w (bi++ys++bh) (first++c.args.map a.eval++E).toList:=fun hg=>by obtain⟨first,E,h1,h2,h3⟩:=bq hg;refine⟨first,E,h1,?_⟩;simp only[Array.toList_append];refine cA _ _ _ _ (cA _ _ _ _ h2 ?_) h3;simpa using an hg
     split at h
     . rename_i af;obtain⟨al,_⟩:=af;subst al;have hw:=cH ah rfl;obtain⟨first,E,a4,aq⟩:=M trivial;have aj:(execOp a.eval o).run P w=.ok (.enter g (first++c.args.map a.eval++E)) w:=by simp only[execOp,ho];rw[jV hc a4];simp[invoke,lW a5]
       refine dT hw ?_;have L:=h S w _ J aq;unfold Oper.wp;rw[aj];simp only[Oper.upon,Array.toArray_toList]at L |-;refine L.mono fun e w' ⟨v,r,H',S',he,hr,ay,hv,ar,ax⟩=>?_
       subst he;exact hK _ _ _ _ hr (Rel.step J hF hG hN hd hn ay ar ax hv)
     . obtain⟨r,hq,hk⟩:=h;refine⟨fun hw=>?_,fun hw=>?_⟩
       . have O:=ah.1 hw;obtain⟨first,E,a4,aq⟩:=M O;have aj:(execOp a.eval o).run P w=.ok (.enter g (first++c.args.map a.eval++E)) w:=by simp only[execOp,ho];rw[jV hc a4];simp[invoke,lW a5]
         rcases hq O with hq|⟨x,rfl,bn⟩
         . obtain⟨v,be⟩:=hq.val;obtain⟨hv,L⟩:=hq.calls be J aq;rw[GX (by rw[be];rfl)]at hk;unfold Oper.wp;rw[aj];simp only[Oper.upon,Array.toArray_toList]at L |-;refine L.mono fun e w' ⟨he,p1,p2,p3,p4,p5⟩=>?_
           subst he;exact hK _ _ _ _ hk (Rel.step J hF hG hN hd hn (J.after p4 p5) (J.grow p1 p2 p3 p4 p5) (dK.refl _ _) (dP O (hv S w')))
         . cases au with
           | true=>exact hk.elim
           | false=>
             have L:=(PC.use (H:=H) bn (K:=fun y H'=>y=x/\H'=H) ⟨rfl,rfl⟩) S w _ J aq;unfold Oper.wp;rw[aj];simp only[Oper.upon,Array.toArray_toList]at L |-;refine L.mono fun e w' ⟨v,r,H',S',he,⟨hr,hH⟩,ay,hv,ar,ax⟩=>?_
             subst he hr hH;exact hK _ _ _ _ hk (Rel.step J hF hG hN hd hn ay ar ax (dP O hv))
       . have O:¬gt G:=fun h=>by rw[ah.2 h]at hw;simp at hw
         obtain⟨z,hk⟩:=Gd hk;exact hK _ _ _ _ hk (Rel.step J hF hG hN hd hn J (Grow.refl S w) (dK.refl _ _) (dA O))
   . exact h.elim
 . exact h.elim
end
end Go.Aw
end
section
namespace Go.Aw
open Go.RowKit
section
variable{P:Program}{n:Nat}{S0:Sg}{w0:World}{H0:aD}{mt:Nat->Bool}{ops:Array Oper}{K:Env->aD->Prop}{K':Act->World->Prop}{Q':Exit->Act->World->Prop}{ρ:Env}{H:aD}{a:Act}{w:World}{o:Oper}{S:Sg}
def pQ{w':World}(h:(execOp a.eval o).run P w=.ok .skip w')(u:K' (a.put o.dst undef) w'):o.wp P a w K' Q':=by unfold Oper.wp;rw[h];exact u
def HJ{s:Sem Value}{v:Value}{w w':World}(h:s.run P w=.ok v w'):(do pure (Next.value (<-s)):Sem Next).run P w=.ok (.value v) w':=by simp[h]
def E3{t:TypeId}{l:Option Nat}(M:ldT P t=some l){v:Value}{vs:List Value}(J:v.cells=List.toArray vs)(u:vs.length=l.getD 1){g p:Nat}{w w':World}(E:l=none->∃i,P.info? t=some i/\i.size=1)
  (L:(storeCells ⟨g,p,none⟩ vs).run P w=.ok () w'):(Instr.storeAt t (.pointer (some ⟨g,p,none⟩)) v).run P w=.ok () w':=by
 have F:(sizeOf t).run P w=.ok vs.length w:=by
  cases l with
  | none=>obtain⟨i,hi,h1⟩:=E rfl;simp[sizeOf,typeInfo,hi,h1,u]
  | some m=>rw[oL M,u];rfl
 simp[Instr.storeAt,Instr.sureAddr,storeVar,F,J,L]
def tI(z:Array Value)(E:0<z.size):∀m,(madeCells z (m*z.size)).toList=(List.replicate m z.toList).flatten
 | 0=>by simp[madeCells]
 | m+1=>by
  have ih:=tI z E m;rw[show List.replicate (m+1) z.toList=List.replicate m z.toList++[z.toList]from List.replicate_succ',List.flatten_append,<-ih];simp only[madeCells,Array.toList_map,Array.toList_range,Nat.add_mul,Nat.one_mul,List.flatten_cons,List.flatten_nil,List.append_nil];rw[List.range_add,List.map_append]
  congr 1
  apply List.ext_getElem
  ·simp
  ·intro i h1 u;have hi:i<z.size:=by simpa using u
   simp[Nat.add_mod,Nat.mod_eq_of_lt hi,hi]
def Cd:∀(cs:List AV) (l:List Value) (j:Nat) {x:AV},aR S w cs l->(∀u,l[j]?=some u->rep S w x u)->aR S w (cs.set j x) l
 | [],_,_,_,h,_=>h
 | y::r,l,0,x,h,hx=>by simp only[aR,List.set_cons_zero]at h |-;obtain⟨u,t,rfl,h1,E⟩:=h;exact⟨u,t,rfl,hx u (by simp),E⟩
 | y::r,l,j+1,x,h,hx=>by simp only[aR,List.set_cons_succ]at h |-;obtain⟨u,t,rfl,h1,E⟩:=h;exact⟨u,t,rfl,h1,Cd r t j E fun u F=>hx u (by simpa using F)⟩
def kX:∀(nl:List (Nat×TypeId×Nat)) (z:List AV) (S:Sg) (H:aD) (vs:List Value) {K:List AV->aD->Prop},(∀x∈nl,vs[x.1]?=some (.slice none 0 0)/\0<x.2.2)->St S w H->aR S w z vs->gK nl z H K ->
  ∃F S' H',K F H'/\St S' w H'/\Grow S w S' w/\dK S.N H H'/\aR S' w F vs/\F.length=z.length
 | [],z,S,H,vs,K,_,hS,hr,h=>⟨z,S,H,h,hS,Grow.refl S w,dK.refl _ _,hr,rfl⟩
 | x::r,z,S,H,vs,K,hn,hS,hr,h=>by obtain⟨h0,E⟩:=hn x (by simp);have q:=hS.nilRow x.2.1 E;have L:=Cd z vs x.1 (x:=.os S.N) (cP q.2.le (q.2.kept hS) _ _ hr) (fun u J=>by rw[h0]at J;injection J with J;subst J;simp only[rep,Sg.addRow,if_true];exact⟨Nat.lt_succ_self _,trivial,_,_,_,rfl⟩);obtain⟨F,S',H',h1,h2,h3,O,h5,M⟩:=kX r _ _ _ vs (fun y Z=>hn y (by simp[Z])) q.1 L (h S.N hS.fresh);exact⟨F,S',H',h1,h2,q.2.trans h3,(jR hS).trans O q.2.le.N,h5,by simpa using M⟩
def vH{P:Program}{t:TypeId}{nl:List (Nat×TypeId×Nat)}(h:jX P t=some nl){i:TypeInfo}{v:Value}(hi:P.info? t=some i)(F:i.zero=some v):∀x∈nl,v.cells.toList[x.1]?=some (.slice none 0 0)/\0<x.2.2:=by
 unfold jX at h;rw[hi]at h;simp only[F]at h;split at h
 ·rename_i u;injection h with h;subst h;intro x E;have:=List.all_eq_true.1 u x E;simp only[Bool.and_eq_true,decide_eq_true_eq]at this;refine⟨?_,this.2⟩;have h1:=this.1;unfold Qr at h1;split at h1
  ·rename_i e;exact e
  ·simp at h1
 ·simp at h
def Gn{t:TypeId}{z:List AV}(hS:St S w H)(hF:FR S w ρ a)(hG:Grow S0 w0 S w)(hN:dK S0.N H0 H)(hd:a.defers=[])(hn:a.tmps.size=n)(ho:o.op=.alloc t)(hz:cN P t=some z)
  (hw:Region.wanted o (yielded ops a.tmps)=true) (hK:∀F H' a' w',K F H'->Rel n S0 w0 H0 F H' a' w'->K' a' w') {nl:List (Nat×TypeId×Nat)} (M:jX P t=some nl)
  (h:gK nl z H fun z H=>iJ H ⟨t,z.length,[z]⟩ fun k H'=>K (upd ρ o.dst (.op k 0 0)) H'):rW P ops o a w K' Q':=by
 obtain⟨i,v,hi,L,rfl,ae,ac,h1⟩:=iW hz;have J:(Instr.alloc t true (.tuple #[])).run P w=.ok (.pointer (some ⟨w.heap.size,0,none⟩)) (w.alloc (.cells v.cells t)):=by simp[Instr.alloc,zeroValue,typeInfo,hi,L,newVar,newRow]
 have ab:∀x∈nl,v.cells.toList[x.1]?=some (.slice none 0 0)/\0<x.2.2:=vH M hi L;obtain⟨z',S',H',q0,u,E,Z,aa,O⟩:=kX nl _ S H v.cells.toList ab hS (iD _) h;obtain⟨S2,q1,q2,q3⟩:=xP (t:=t) (cs:=z') (l:=v.cells.toList) u (by rw[O];simp;omega) aa h1;refine dT hw (cO (v:=.pointer (some ⟨w.heap.size,0,none⟩)) (w':=w.alloc (.cells v.cells t)) (by simp[execOp,ho,J]) (hK _ _ _ _ (q0 S'.N u.fresh) (Rel.step u (hF.keep E.le (E.kept hS)) (hG.trans E) (hN.trans Z hG.le.N) hd hn (by simpa using q1) (by simpa using q2) (jR u) (by simpa using q3))))
def zB{t:TypeId}{x y:Operand}{x':AV}{cs:List AV}{l:List Value}(hS:St S w H)(hF:FR S w ρ a)(hG:Grow S0 w0 S w)(hN:dK S0.N H0 H)(hd:a.defers=[])(hn:a.tmps.size=n)(ho:o.op=.store t x y)
  (hw:Region.wanted o (yielded ops a.tmps)=true) (hK:∀L H' a' w',K L H'->Rel n S0 w0 H0 L H' a' w'->K' a' w') (ex:rep S w x' (a.eval x)) (e1:(a.eval y).cells=l.toArray) (e2:aR S w cs l) (e3:∀u∈l,u.oneCell'=true)
  (J:tB P o t x' cs ρ H K):rW P ops o a w K' Q':=by
 unfold tB at J;split at J
 ·rename_i k i f;split at J
  ·rename_i r ld Z aa;obtain⟨⟨c1,c2,c3,c4⟩,h5⟩:=J;simp only[rep]at ex;obtain⟨_,g,m,c,F,ep⟩:=ex;obtain⟨g',n',c',w',E,M,q1,q2⟩:=hS.store Z c1 c3 F e2 e3;rw[F]at E;injection E with O i2 i3;injection O with O;injection O with O;subst O;rw[<-(hS.rows k r Z).sz]at ep;have ac:=E3 (P:=P) aa e1 (by rw[eF _ _ e2,c2]) (by intro ab;subst ab;exact c4 rfl) (M P);refine dT hw (pQ (w':=w') ?_ (hK _ _ _ _ h5 (Rel.step hS hF hG hN hd hn q1 q2 ?_ (by simp only[rep]))))
   ·simp[execOp,ho,ep,ac]
   ·intro j _ h0;rw[aC _ _ _ _ (fun e=>by subst e;rw[Z]at h0;simp at h0)];exact h0
  ·exact J.elim
 ·exact J.elim
def LN:∀(x:List AV) (l:List Value) (j:Nat) (v:Value),aR S w x l->x[j]?=some (.v v)->l[j]?=some v
 | [],_,_,_,_,h=>by simp at h
 | a::r,l,0,v,h,hx=>by
  simp only[aR]at h;obtain⟨u,t,rfl,h1,E⟩:=h;have e:a=.v v:=by simpa using hx
  subst e;simp only[rep]at h1;simp[h1]
 | a::r,l,j+1,v,h,hx=>by simp only[aR]at h;obtain⟨u,t,rfl,h1,E⟩:=h;simpa using LN r t j v E (by simpa using hx)
def xA{t:TypeId}{x y:Operand}{x':AV}{cs:List AV}{l:List Value}(M:St S w H)(hF:FR S w ρ a)(hG:Grow S0 w0 S w)(hN:dK S0.N H0 H)(hd:a.defers=[])(hn:a.tmps.size=n)(ho:o.op=.store t x y)
  (hw:Region.wanted o (yielded ops a.tmps)=true) (hK:∀F H' a' w',K F H'->Rel n S0 w0 H0 F H' a' w'->K' a' w') (ex:rep S w x' (a.eval x)) (e1:(a.eval y).cells=l.toArray) (e2:aR S w cs l) (e3:∀u∈l,u.oneCell'=true)
  (L:oG P o t x' cs ρ H K):rW P ops o a w K' Q':=by
 rcases L with L|⟨_,nl,J,L⟩
 ·exact zB M hF hG hN hd hn ho hw hK ex e1 e2 e3 L
 ·obtain⟨z',S',H',q0,Z,E,aa,O,ab⟩:=kX nl _ S H l (fun x hx=>⟨LN _ _ _ _ e2 (J x hx).1,(J x hx).2⟩) M e2 L;exact zB Z (hF.keep E.le (E.kept M)) (hG.trans E) (hN.trans aa hG.le.N) hd hn ho hw hK (gY E.le (E.kept M) _ _ ex) e1 O e3 q0
def CY{w:World}:∀(nl:List (Nat×TypeId×Nat)) (z:List AV) (vs:List Value),(∀x∈nl,vs[x.1]?=some (.slice none 0 0))->aR S w z vs->aR S w (Eg nl z) vs
 | [],z,vs,_,h=>h
 | x :: r, z, vs, hn, h => CY r _ vs (fun y F => hn y (by simp [F])) (Cd z vs x.1 h fun u E => by rw[hn x (by simp)]at E;injection E with E;simp only[rep];exact E.symm)
def yT{o:Oper}{w1:World}{t:TypeId}{u:Array (Nat×Operand)}(hF:FR S w1 ρ a)(hb:∀x∈o.op.operands,opB a.tmps.size x=true)(ho:o.op=.build t u)
  (h:uB P o t u.toList ρ H K):∃z,K (upd ρ o.dst z) H/\∃v,rep S w1 z v/\∀w,(execOp a.eval o).run P w=.ok (.value v) w:=by
 unfold uB at h;obtain⟨ps,h,M⟩:=jN hF u.toList (fun p hp=>hb p.2 (by rw[ho];simpa[Op.operands]using⟨p.1,by simpa using hp⟩)) h;split at h
 ·rename_i z pl nl hz J F;obtain⟨e1,e2⟩:=M trivial;obtain⟨i,v,hi,E,rfl,ab,aa,h1⟩:=iW hz;split at h
  ·rename_i cs O;obtain⟨L,Z,f2,f3⟩:=oP (S:=S) (w:=w1) hi E h1 (CY nl _ _ (fun x hx=>(vH F hi E x hx).1) (iD _)) J O e1 (fun j i c hj=>e2 j i c hj);refine⟨_,h,.agg L,?_,fun w=>?_⟩
   ·simp only[rep];exact⟨L.toList,by simp,f2,f3⟩
   ·have:(u.map fun(p:Nat×Operand)=>(p.1,a.eval p.2)).toList=u.toList.map fun p=>(p.1,a.eval p.2):=by simp
    rw[<-this]at Z;simp only[execOp,ho];exact oC (run_build w t _ L Z)
  ·exact h.elim
 ·exact h.elim
def Ev{t:TypeId}{u:Array (Nat×Operand)}(F:St S w H)(hF:FR S w ρ a)(Z:Grow S0 w0 S w)(hN:dK S0.N H0 H)(O:a.defers=[])(L:a.tmps.size=n)(ho:o.op=.build t u)(hb:∀x∈o.op.operands,opB a.tmps.size x=true)
  (hw:Region.wanted o (yielded ops a.tmps)=true) (M:∀E H' J w',K E H'->Rel n S0 w0 H0 E H' J w'->K' J w') (h:uB P o t u.toList ρ H K):rW P ops o a w K' Q':=by
 obtain⟨z,hz,v,hv,hq⟩:=yT (S:=S) (w1:=w) hF hb ho h;exact dT hw (cO (v:=v) (w':=w) (hq w) (M _ _ _ _ hz (Rel.step F hF Z hN O L F (Grow.refl S w) (dK.refl _ _) hv)))
def EG{t:TypeId}{E:Array (Nat×Operand)}(hS:St S w H)(hF:FR S w ρ a)(hG:Grow S0 w0 S w)(hN:dK S0.N H0 H)(hd:a.defers=[])(hn:a.tmps.size=n)(ho:o.op=.build t E)(hb:∀x∈o.op.operands,opB a.tmps.size x=true)
  (hw:Region.wanted o (yielded ops a.tmps)=true) (hK:∀J H' a' w',K J H'->Rel n S0 w0 H0 J H' a' w'->K' a' w') (h:vP P o t E.toList ρ H K):rW P ops o a w K' Q':=by
 unfold vP at h;obtain⟨ps,h,ac⟩:=jN hF E.toList (fun p hp=>hb p.2 (by rw[ho];simpa[Op.operands]using⟨p.1,by simpa using hp⟩)) h;split at h
 ·rename_i z pl nl hz Z O;obtain⟨e1,e2⟩:=ac trivial;obtain⟨i,v,hi,M,rfl,ah,ag,h1⟩:=iW hz;obtain⟨z',S',H',q0,L,F,aa,ab,af⟩:=kX nl _ S H v.cells.toList (vH O hi M) hS (iD _) h;split at q0
  ·rename_i cs ae;obtain⟨A',f1,f2,f3⟩:=oP (S:=S') (w:=w) (z:=z') hi M h1 ab Z ae e1 (fun j i c hj=>by obtain⟨u,l,g1,g2,g3,g4⟩:=e2 j i c hj;exact⟨u,l,g1,g2,cP F.le (F.kept hS) _ _ g3,g4⟩);refine dT hw (cO (v:=.agg A') (w':=w) ?_ (hK _ _ _ _ q0 (Rel.step L (hF.keep F.le (F.kept hS)) (hG.trans F) (hN.trans aa hG.le.N) hd hn L (Grow.refl S' w) (dK.refl _ _) ?_)))
   ·have:(E.map fun(p:Nat×Operand)=>(p.1,a.eval p.2)).toList=E.toList.map fun p=>(p.1,a.eval p.2):=by simp
    rw[<-this]at f1;simp only[execOp,ho];exact oC (run_build w t _ A' f1)
   ·simp only[rep];exact⟨A'.toList,by simp,f2,f3⟩
  ·exact q0.elim
 ·exact h.elim
def Aj{t:TypeId}{x:Operand}{K2:AV->Prop}(F:St S w H)(hF:FR S w ρ a)(hG:Grow S0 w0 S w)(hN:dK S0.N H0 H)(hd:a.defers=[])(hn:a.tmps.size=n)(ho:o.op=.store t x (.const (.slice none 0 0)))(hb:∀x∈o.op.operands,opB a.tmps.size x=true)
   (hw:Region.wanted o (yielded ops a.tmps)=true) (hK:∀u H' a' w',K u H'->Rel n S0 w0 H0 u H' a' w'->K' a' w')
   (h : aX none (aev ρ x) fun y => match bM P t with
       | some (e,sz,_)=>iJ H ⟨e,sz,[]⟩ fun k H=>oG P o t y [.os k] ρ H K
       | none=>False):rW P ops o a w K' Q':=by
 obtain⟨x',M,J⟩:=aK (S:=S) (w:=w) h;have L:opB a.tmps.size x=true:=hb x (by simp[ho,Op.operands]);have ex:=J trivial _ (bQ hF L);split at M
 . rename_i e sz Z he;obtain⟨i,z,hu,hi,aa,_,E,_⟩:=dU he;have q:=F.nilRow e E;have h3:=M S.N F.fresh;have O:=jR F (r:=some ⟨e,sz,[]⟩);refine xA q.1 (hF.keep q.2.le (q.2.kept F)) (hG.trans q.2) (hN.trans O hG.le.N) hd hn ho hw hK (gY q.2.le (q.2.kept F) _ _ ex) (l:=[.slice none 0 0]) (by simp[Act.eval,Value.cells]) ?_ (by simp[Value.oneCell']) h3;simp only[aR,rep,Sg.addRow,if_true];exact⟨_,_,rfl,⟨Nat.lt_succ_self _,rfl,_,_,_,rfl⟩,rfl⟩
 . exact M.elim
def Fu{x:Operand}(J:St S w H)(hF:FR S w ρ a)(hG:Grow S0 w0 S w)(hN:dK S0.N H0 H)(hd:a.defers=[])(hn:a.tmps.size=n)(ho:o.op=.move x)(hb:∀x∈o.op.operands,opB a.tmps.size x=true)
  (hw:Region.wanted o (yielded ops a.tmps)=true) (hK:∀M H' a' w',K M H'->Rel n S0 w0 H0 M H' a' w'->K' a' w') (h:tV x ρ o.dst H K):rW P ops o a w K' Q':=by
 unfold tV at h;split at h
 ·rename_i t;split at h
  ·rename_i j hj;split at h
   ·rename_i r hr;have ag:=hb (.tmp t) (by simp[ho,Op.operands]);have hv:rep S w (ρ t) (a.eval (.tmp t)):=bQ (x:=.tmp t) hF ag;rw[hj]at hv
    let Hf:aD:=fun k=>if k=j then H k else none
    let Hr:aD:=fun k=>if k=j then none else H k
    have hf:∀k r',Hf k=some r'->k=j/\H k=some r':=fun k r' u=>by
     by_cases e:k=j
     ·exact⟨e,by simpa[Hf,e]using u⟩
     ·simp[Hf,e]at u
    have F:∀k r',Hr k=some r'->k≠j/\H k=some r':=fun k r' u=>by
     by_cases e:k=j
     ·simp[Hr,e]at u
     ·exact⟨e,by simpa[Hr,e]using u⟩
    have ah:St S w Hf:=J.drop fun k r' u=>(hf k r' u).2
    have aa:rep (S.froze Hf) w (.sl r.es) (a.eval (.tmp t)):=Conv.rep ah (Conv.row j r r.es (by simp[Hf,hr]) (ConvE.refl _)) hv;have O:St (S.froze Hf) w Hr:=by
     refine⟨?_,?_,fun k r' u=>(J.rows k r' (F k r' u).2).keep (S.le_froze Hf) (eG.refl S w) (fun _ _=>rfl),?_,fun k k' r1 L u ab ac g E af=>J.disj k k' r1 L (F k r1 u).2 (F k' L ab).2 ac g E af,J.tabs.keep (S.le_froze Hf) (eG.refl S w)⟩
     ·rintro g (E|E)
      ·exact .inl (J.ro_fz g E)
      ·exact .inr E
     ·rintro g (E|⟨k,r',u,E⟩)
      ·exact J.fz_lt g E
      ·exact(J.rows k r' (hf k r' u).2).block_lt E
     ·rintro k r' u g E (h1|⟨i,L,hi,h2⟩)
      ·exact J.free k r' (F k r' u).2 g E h1
      ·exact J.disj k i r' L (F k r' u).2 (hf i L hi).2 (fun e=>(F k r' u).1 (e.trans (hf i L hi).1)) g E h2
    have E:Grow S w (S.froze Hf) w:=by
     refine⟨S.le_froze Hf,fun k u=>.inl u,rfl,rfl,rfl,Nat.le_refl _,fun _ _=>rfl,?_⟩;rintro g (E|⟨k,r',u,E⟩)
     ·exact .inl E
     ·exact .inr (J.free k r' (hf k r' u).2 g E)
    have ae:FR (S.froze Hf) w (upd ρ (some t) (.sl r.es)) a:=fun t' Z=>by
     by_cases e:t'=t
     ·subst e;have h1:=aa;simp only[upd,if_true];simpa[Act.eval,Array.getD,Z]using h1
     ·simp only[upd,if_neg e];exact(hF.keep (S.le_froze Hf) (eG.refl S w)) t' Z
    have u:=h Hr (by simp[Hr]) (fun k u=>by simp[Hr,u]);refine dT hw (cO (v:=a.eval (.tmp t)) (w':=w) ?_ (hK _ _ _ _ u (Rel.step O ae (hG.trans E) (hN.trans (fun k _ h0=>by
     by_cases e:k=j
     ·simp[Hr,e]
     ·simp[Hr,e,h0]) hG.le.N) hd hn O (Grow.refl _ _) (dK.refl _ _) aa)))
    simp[execOp,ho]
   ·exact h.elim
  ·exact h.elim
 ·exact h.elim
def BL{l:List Nat}:∀{xs u:List AV},C5 l H xs u->ConvL (fun k=>if k∈l then H k else none) xs u
 | [],[],_=>.nil
 | x::xs,y::u,h=>by
  simp only[C5]at h;obtain⟨h1,J⟩:=h;refine .cons _ _ _ _ ?_ (BL J);rcases h1 with rfl|⟨j,r,E,rfl,F,rfl⟩
  ·exact .refl _
  ·exact .row j r r.es (by rw[if_pos E];exact F) (ConvE.refl _)
 | [],_::_,h=>by simp[C5]at h
 | _::_,[],h=>by simp[C5]at h
def OI{x y:AV}{d:Option Nat}{l:List Nat}{a':Act}{w':World}(hR:Rel n S0 w0 H0 (upd ρ d x) H a' w')(hc:Conv (fun k=>if k∈l then H k else none) x y):Rel n S0 w0 H0 (upd ρ d y) (fun k=>if k∈l then none else H k) a' w':=by
 obtain⟨S,J,hF,hG,hN,hd,hn⟩:=hR
 let Hf:aD:=fun k=>if k∈l then H k else none
 let Hr:aD:=fun k=>if k∈l then none else H k
 have O:∀k r',Hf k=some r'->k∈l/\H k=some r':=fun k r' u=>by
  by_cases e:k∈l
  ·exact⟨e,by simpa[Hf,e]using u⟩
  ·simp[Hf,e]at u
 have F:∀k r',Hr k=some r'->¬k∈l/\H k=some r':=fun k r' u=>by
  by_cases e:k∈l
  ·simp[Hr,e]at u
  ·exact⟨e,by simpa[Hr,e]using u⟩
 have af:St S w' Hf:=J.drop fun k r' u=>(O k r' u).2
 have Z:St (S.froze Hf) w' Hr:=by
  refine⟨?_,?_,fun k r' u=>(J.rows k r' (F k r' u).2).keep (S.le_froze Hf) (eG.refl S w') (fun _ _=>rfl),?_,fun k k' r1 L u aa ab g E ae=>J.disj k k' r1 L (F k r1 u).2 (F k' L aa).2 ab g E ae,J.tabs.keep (S.le_froze Hf) (eG.refl S w')⟩
  ·rintro g (E|E)
   ·exact .inl (J.ro_fz g E)
   ·exact .inr E
  ·rintro g (E|⟨k,r',u,E⟩)
   ·exact J.fz_lt g E
   ·exact(J.rows k r' (O k r' u).2).block_lt E
  ·rintro k r' u g E (h1|⟨i,L,hi,h2⟩)
   ·exact J.free k r' (F k r' u).2 g E h1
   ·exact J.disj k i r' L (F k r' u).2 (O i L hi).2 (fun e=>(F k r' u).1 (e▸(O i L hi).1)) g E h2
 have E:Grow S w' (S.froze Hf) w':=by
  refine⟨S.le_froze Hf,fun k u=>.inl u,rfl,rfl,rfl,Nat.le_refl _,fun _ _=>rfl,?_⟩;rintro g (E|⟨k,r',u,E⟩)
  ·exact .inl E
  ·exact .inr (J.free k r' (O k r' u).2 g E)
 have ac:FR (S.froze Hf) w' (upd ρ d y) a':=fun t' M=>by
  have h1:=hF t' M;cases d with
  | none=>exact hF.keep (S.le_froze Hf) (eG.refl S w') t' M
  | some d=>
   by_cases e:t'=d
   ·subst e;simp only[upd,if_true]at h1 |-;exact Conv.rep af hc h1
   ·simp only[upd,if_neg e]at h1 |-;exact gY (S.le_froze Hf) (eG.refl S w') _ _ h1
 exact⟨S.froze Hf,Z,ac,hG.trans E,hN.trans (fun k _ h0=>by
  by_cases e:k∈l
  ·simp[e]
  ·simp[e,h0]) hG.le.N,hd,hn⟩
def KJ{G:Option Bool}{l:Option Nat}{y:AV}{u K2:AV->Prop}(F:∀z,u z->K2 z)(h:jS G H l y u):jS G H l y K2:=by
 unfold jS at h |-;cases y with
 | rp cs off=>cases l <;> exact⟨h.1,F _ h.2⟩
 | op k i f=>
  simp only at h |-;cases E:H k with
  | none=>rw[E]at h;exact h.elim
  | some r=>rw[E]at h;cases l <;> exact⟨h.1,F _ h.2⟩
 | _=>exact h.elim
def N6{G:Option Bool}{x:AV}{E K2:AV->Prop}(u:∀z,E z->K2 z)(h:aX G x E):aX G x K2:=by
 unfold aX at h |-;split at h
 ·exact⟨h.1,u _ h.2⟩
 ·exact u _ h
def Ap{G:Option Bool}{t:TypeId}{x:Operand}{u K2:AV->Prop}(J:∀z,u z->K2 z)(h:eR P G ρ H (.load t x) u):eR P G ρ H (.load t x) K2:=by
 simp only[eR]at h |-;cases E:ldT P t with
 | none=>rw[E]at h;exact h.elim
 | some l=>rw[E]at h;exact N6 (fun y F=>KJ J F) h
def Ke{t:TypeId}{x:Operand}(hS:St S w H)(hF:FR S w ρ a)(hG:Grow S0 w0 S w)(hN:dK S0.N H0 H)(O:a.defers=[])(L:a.tmps.size=n)(ho:o.op=.load t x)(hb:∀x∈o.op.operands,opB n x=true)
  (F:Region.wanted o (yielded ops a.tmps)=true↔gt none) (M:∀u H' J w',K u H'->Rel n S0 w0 H0 u H' J w'->K' J w') (h:eR P none ρ H (.load t x) fun x=>Dj x ρ o.dst H K):rW P ops o a w K' Q':=by
 refine mG (K:=fun u H'=>∃z,u=upd ρ o.dst z/\H'=H/\Dj z ρ o.dst H K) hS hF hG hN O L hb F ?_ (by rw[ho];exact Ap (fun z E=>⟨z,rfl,rfl,E⟩) h);rintro u H' J w' ⟨z,rfl,rfl,E⟩ hR;unfold Dj at E;split at E
 ·obtain⟨l,ys,ht,Z⟩:=E;exact M _ _ _ _ (Z (fun k=>if k∈l then none else H' k) (fun k e=>if_pos e) (fun k e=>if_neg e)) (OI hR (.agg _ _ (BL ht)))
 ·exact E.elim
def Am{t:TypeId}{l c:Operand}(hS:St S w H)(hF:FR S w ρ a)(hG:Grow S0 w0 S w)(hN:dK S0.N H0 H)(hd:a.defers=[])(hn:a.tmps.size=n)(ho:o.op=.makeSlice t l c)(hb:∀x∈o.op.operands,opB a.tmps.size x=true)
  (hw:Region.wanted o (yielded ops a.tmps)=true) (hK:∀aa H' a' w',K aa H'->Rel n S0 w0 H0 aa H' a' w'->K' a' w')
  (h:aX none (aev ρ l) fun l=>aX none (aev ρ c) fun c=>mK P o t l c ρ H K):rW P ops o a w K' Q':=by
 rw[ho]at hb;simp only[Op.operands]at hb;obtain⟨l',h2,hl⟩:=aK (S:=S) (w:=w) h;obtain⟨c',M,hc⟩:=aK (S:=S) (w:=w) h2;have el:=hl trivial _ (bQ hF (hb l (by simp)));have ec:=hc trivial _ (bQ hF (hb c (by simp)));unfold mK at M;split at M
 ·rename_i kl x kc y;simp only[rep]at el ec;split at M
  ·rename_i e sz F he;split at M
   ·rename_i z hz;obtain⟨⟨⟨p1,p2⟩,p3⟩,h4⟩:=M;obtain⟨i,v,hi,ah,rfl,ai,al,h1⟩:=iW hz;obtain⟨i',z',af,J,O,ae,ac,aj,am,an⟩:=dU he;rw[hi]at J;injection J with J;subst J;have E:v.cells.size=sz:=by rw[ai,O]
    have ak:y<=(F:Int)*y:=by have:(1:Int)*y<=(F:Int)*y:=Int.mul_le_mul_of_nonneg_right (by omega) (by omega);omega
    have L:=run_make (P:=P) w t e i v af hi ah kl kc x y p1 p2 (by rw[ae];omega) (by omega);have hm:(madeCells v.cells (y.toNat*sz)).toList=(List.replicate y.toNat v.cells.toList).flatten:=by rw[<-E];exact tI _ (by omega) _
    have Z:(madeCells v.cells (y.toNat*sz)).toList.take (x.toNat*sz)=(List.replicate x.toNat v.cells.toList).flatten:=by
     rw[hm,<-E];have:y.toNat=x.toNat+(y.toNat-x.toNat):=by omega
     rw[this,<-List.replicate_append_replicate,List.flatten_append,List.take_append_of_le_length (by simp[List.length_flatten]),List.take_of_length_le (by simp[List.length_flatten])]
    have ab:∀m,aR S w (List.replicate m (v.cells.toList.map lA)).flatten (List.replicate m v.cells.toList).flatten:=by
     intro m;induction m with
     | zero=>simp[aR]
     | succ m ih=>simp only[List.replicate_succ,List.flatten_cons];exact cA _ _ _ _ (iD _) ih
    rw[O]at L;have q:=hS.newRow (e:=e) (sz:=sz) (cap:=y.toNat) (es:=List.replicate x.toNat (v.cells.toList.map lA)) (xs:=(List.replicate x.toNat v.cells.toList).flatten) (cur:=madeCells v.cells (y.toNat*sz)) ac
     (fun cs ag=>by rw[List.eq_of_mem_replicate ag];simp[E]) (ab _) (fun u hu=>by obtain⟨l,hl,hu⟩:=List.mem_flatten.1 hu;rw[List.eq_of_mem_replicate hl]at hu;exact h1 u hu) (by rw[List.length_replicate];omega) (by simp only[maxLen];omega) (size_madeCells _ _) (by rw[List.length_replicate];exact Z) (w':=w.alloc (.cells (madeCells v.cells (y.toNat*sz)) e)) rfl rfl rfl rfl
    refine dT hw (cO (v:=.slice (some ⟨w.heap.size,0,none⟩) x.toNat y.toNat) (w':=w.alloc (.cells (madeCells v.cells (y.toNat*sz)) e)) ?_ (hK _ _ _ _ (h4 S.N hS.fresh) (Rel.step hS hF hG hN hd hn q.1 q.2 (jR hS) ?_)))
    ·simp only[execOp,ho,el,ec];exact HJ L
    ·simp only[rep,Sg.addRow,if_true,List.length_replicate];exact⟨Nat.lt_succ_self _,trivial,_,_,_,rfl⟩
   ·exact M.elim
  ·exact M.elim
 ·exact M.elim
def Bz{u new:Value}(h:∀n,Instr.sameBits (n+1) u new=true)(w:World):(Instr.keyThatStays u new).run P w=.ok new w:=by have:=h 9999;simp[Instr.keyThatStays,this]
def nL{ms:List MapEntry}{i:Nat}{m:MapEntry}(hi:ms[i]?=some m)(f:MapEntry->MapEntry):ms.modify i f=ms.set i (f m):=by
 apply List.ext_getElem?;intro j;rw[List.getElem?_modify,List.getElem?_set];by_cases e:i=j
 ·subst e;have u:i<ms.length:=(List.getElem?_eq_some_iff.1 hi).1;rw[hi];simp[u]
 ·simp[e]
def xI{t:TypeId}{m x:AV}{F:Nat->Row->TypeId×TypeId->Option Nat->Prop}(hS:St S w H){u v:Value}(Z:rep S w m u)(hv:rep S w x v)(h:yU P H t m x F):
  ∃j r E J g ms,F j r E J/\H j=some r/\u=.map (some g)/\S.loc j=.map (some g)/\w.heap[g]?=some (.map (List.toArray ms) ms.length)/\gO S w 0 r.es ms/\r.sz=2/\P.underlying t=some (.map E.1 E.2)/\(∀e (w':World),(Instr.checkKey e 10000 E.1 v).run P w'=.ok () w') /\
   ((J=none/\∀w':World,(Instr.findKey E.1 v ms).run P w'=.ok none w') \/
   ∃i m cs,J=some i/\ms[i]?=some m/\r.es[i]?=some cs/\(∀w':World,(Instr.findKey E.1 v ms).run P w'=.ok (some (i,m.val)) w')/\m.key=v/\(∀n,Instr.sameBits (n+1) m.key v=true)/\m.born=i/\aR S w cs [m.key,m.val]):=by
 unfold yU at h;split at h
 ·rename_i j;split at h
  ·rename_i r E O ht;split at h
   ·rename_i J hf;obtain⟨hp,h⟩:=h;simp only[rep]at Z;obtain⟨_,rfl,g0,M⟩:=Z;have hm:=(hS.rows j r O).mp M;obtain⟨g,ms,h1,h2,h3,h4,h5,h6⟩:=I0 ht hp hf hm hv;obtain⟨_,_,_,_,_,L⟩:=hm;exact⟨j,r,E,J,g,ms,h,O,h1,h1,h2,h3,L,h4,h5,h6⟩
   ·exact h.elim
  ·exact h.elim
 ·exact h.elim
def pA{j:Nat}{r:Row}{q:Option Row}(u:H j=some r):dK S.N H (aE H j q):=fun k _ h0=>by rw[aC _ _ _ _ (fun e=>by subst e;rw[u]at h0;cases h0)];exact h0
def Aa{t:TypeId}{m x v:Operand}(hS:St S w H)(hF:FR S w ρ a)(hG:Grow S0 w0 S w)(hN:dK S0.N H0 H)(hd:a.defers=[])(hn:a.tmps.size=n)(ho:o.op=.mapUpdate t m x v)(hb:∀x∈o.op.operands,opB a.tmps.size x=true)
  (hw:Region.wanted o (yielded ops a.tmps)=true) (hK:∀J H' a' w',K J H'->Rel n S0 w0 H0 J H' a' w'->K' a' w')
  (h:aX none (aev ρ m) fun m=>aX none (aev ρ x) fun x=>aX none (aev ρ v) fun v=>iA P o t m x v ρ H K):rW P ops o a w K' Q':=by
 rw[ho]at hb;simp only[Op.operands]at hb;obtain⟨m',h,hm⟩:=aK (S:=S) (w:=w) h;obtain⟨x',h,hx⟩:=aK (S:=S) (w:=w) h;obtain⟨v',h,hv⟩:=aK (S:=S) (w:=w) h;have em:=hm trivial _ (bQ hF (hb m (by simp)));have ex:=hx trivial _ (bQ hF (hb x (by simp)));have M:=hv trivial _ (bQ hF (hb v (by simp)));unfold iA at h;obtain⟨j,r,kt,oi,g,ms,hk,hj,e0,hl,hg,E,aa,L,Z,F⟩:=xI hS em ex h;have O:g<w.heap.size:=(Array.getElem?_eq_some_iff.1 hg).1;rcases F with⟨rfl,ac⟩|⟨i,me,cs,rfl,q1,q2,q3,q4,q5,q6,q7⟩
 ·have u:=wF (m:=⟨a.eval x,a.eval v,ms.length⟩) (cs:=[x',v']) 0 _ _ E (by simp[sW _ _ _ E]) (by simp only[aR];exact⟨_,_,rfl,ex,_,_,rfl,M,rfl⟩);have q:=hS.setMap hj hl u aa O;refine dT hw (pQ (w':={ w with heap:=w.heap.setIfInBounds g (.map (ms++[(⟨a.eval x,a.eval v,ms.length⟩:MapEntry)]).toArray (ms++[(⟨a.eval x,a.eval v,ms.length⟩:MapEntry)]).length) }) ?_ (hK _ _ _ _ hk (Rel.step hS hF hG hN hd hn q.1 q.2 (pA hj) (by simp only[rep]))));simp[execOp,ho,e0,Instr.mapUpdate,run_underlying L,MapKept.run_getObj_map hg,Z,ac,MapKept.run_setObj_map _ hg]
 ·have u:=wB (m:=⟨a.eval x,a.eval v,i⟩) (cs:=[x',v']) 0 _ _ i E (by simp) (by simp only[aR];exact⟨_,_,rfl,ex,_,_,rfl,M,rfl⟩);have q:=hS.setMap hj hl u aa O;refine dT hw (pQ (w':={ w with heap:=w.heap.setIfInBounds g (.map (ms.set i ⟨a.eval x,a.eval v,i⟩).toArray (ms.set i (⟨a.eval x,a.eval v,i⟩:MapEntry)).length) }) ?_ (hK _ _ _ _ hk (Rel.step hS hF hG hN hd hn q.1 q.2 (pA hj) (by simp only[rep]))));have ab:=Bz (P:=P) q5;simp[execOp,ho,e0,Instr.mapUpdate,run_underlying L,MapKept.run_getObj_map hg,Z,q3,q1,ab,MapKept.run_setObj_map _ hg,nL q1,q6]
def EZ{t:TypeId}{m x v:Operand}(hS:St S w H)(hF:FR S w ρ a)(hG:Grow S0 w0 S w)(hN:dK S0.N H0 H)(hd:a.defers=[])(hn:a.tmps.size=n)(ho:o.op=.insert t m x v)(hb:∀x∈o.op.operands,opB a.tmps.size x=true)
  (hw:Region.wanted o (yielded ops a.tmps)=true) (hK:∀J H' a' w',K J H'->Rel n S0 w0 H0 J H' a' w'->K' a' w')
  (h:aX none (aev ρ m) fun m=>aX none (aev ρ x) fun x=>aX none (aev ρ v) fun v=>iA P o t m x v ρ H K):rW P ops o a w K' Q':=by
 rw[ho]at hb;simp only[Op.operands]at hb;obtain⟨m',h,hm⟩:=aK (S:=S) (w:=w) h;obtain⟨x',h,hx⟩:=aK (S:=S) (w:=w) h;obtain⟨v',h,hv⟩:=aK (S:=S) (w:=w) h;have em:=hm trivial _ (bQ hF (hb m (by simp)));have ex:=hx trivial _ (bQ hF (hb x (by simp)));have M:=hv trivial _ (bQ hF (hb v (by simp)));unfold iA at h;obtain⟨j,r,kt,oi,g,ms,hk,hj,e0,hl,hg,E,aa,L,Z,F⟩:=xI hS em ex h;have O:g<w.heap.size:=(Array.getElem?_eq_some_iff.1 hg).1;rcases F with⟨rfl,ac⟩|⟨i,me,cs,rfl,q1,q2,q3,q4,q5,q6,q7⟩
 ·have u:=wF (m:=⟨a.eval x,a.eval v,ms.length⟩) (cs:=[x',v']) 0 _ _ E (by simp[sW _ _ _ E]) (by simp only[aR];exact⟨_,_,rfl,ex,_,_,rfl,M,rfl⟩);have q:=hS.setMap hj hl u aa O;refine dT hw (pQ (w':={ w with heap:=w.heap.setIfInBounds g (.map (ms++[(⟨a.eval x,a.eval v,ms.length⟩:MapEntry)]).toArray (ms++[(⟨a.eval x,a.eval v,ms.length⟩:MapEntry)]).length) }) ?_ (hK _ _ _ _ hk (Rel.step hS hF hG hN hd hn q.1 q.2 (pA hj) (by simp only[rep]))));simp[execOp,ho,e0,Instr.mapUpdate,run_underlying L,MapKept.run_getObj_map hg,Z,ac,MapKept.run_setObj_map _ hg]
 ·have u:=wB (m:=⟨a.eval x,a.eval v,i⟩) (cs:=[x',v']) 0 _ _ i E (by simp) (by simp only[aR];exact⟨_,_,rfl,ex,_,_,rfl,M,rfl⟩);have q:=hS.setMap hj hl u aa O;refine dT hw (pQ (w':={ w with heap:=w.heap.setIfInBounds g (.map (ms.set i ⟨a.eval x,a.eval v,i⟩).toArray (ms.set i (⟨a.eval x,a.eval v,i⟩:MapEntry)).length) }) ?_ (hK _ _ _ _ hk (Rel.step hS hF hG hN hd hn q.1 q.2 (pA hj) (by simp only[rep]))));have ab:=Bz (P:=P) q5;simp[execOp,ho,e0,Instr.mapUpdate,run_underlying L,MapKept.run_getObj_map hg,Z,q3,q1,ab,MapKept.run_setObj_map _ hg,nL q1,q6]
def B7{t:TypeId}{m x:Operand}(hS:St S w H)(hF:FR S w ρ a)(hG:Grow S0 w0 S w)(hN:dK S0.N H0 H)(hd:a.defers=[])(hn:a.tmps.size=n)(ho:o.op=.mapEntry t m x)(hb:∀x∈o.op.operands,opB a.tmps.size x=true)
  (hw:Region.wanted o (yielded ops a.tmps)=true) (hK:∀aa H' a' w',K aa H'->Rel n S0 w0 H0 aa H' a' w'->K' a' w')
  (h:aX none (aev ρ m) fun m=>aX none (aev ρ x) fun x=>tU P o t m x ρ H K):rW P ops o a w K' Q':=by
 rw[ho]at hb;simp only[Op.operands]at hb;obtain⟨m',h,hm⟩:=aK (S:=S) (w:=w) h;obtain⟨x',h,hx⟩:=aK (S:=S) (w:=w) h;have em:=hm trivial _ (bQ hF (hb m (by simp)));have ex:=hx trivial _ (bQ hF (hb x (by simp)));unfold tU at h;obtain⟨j,r,kt,oi,g,ms,L,hj,e0,hl,Z,u,ah,ab,ae,M⟩:=xI hS em ex h;have F:g<w.heap.size:=(Array.getElem?_eq_some_iff.1 Z).1;rcases M with⟨rfl,ag⟩|⟨i,me,cs,rfl,q1,q2,q3,q4,q5,q6,q7⟩
 ·simp only at L;split at L
  ·rename_i z hz;obtain⟨zv,ai,ac⟩:=CM hz;have E:=wF (m:=⟨a.eval x,zv,ms.length⟩) (cs:=[x',z]) 0 _ _ u (by simp[sW _ _ _ u]) (by simp only[aR];exact⟨_,_,rfl,ex,_,_,rfl,ac S w,rfl⟩);have q:=hS.setMap hj hl E ah F;refine dT hw (cO (v:=.tuple #[zv,goInt ms.length]) (w':={ w with heap:=w.heap.setIfInBounds g (.map (ms++[(⟨a.eval x,zv,ms.length⟩:MapEntry)]).toArray (ms++[(⟨a.eval x,zv,ms.length⟩:MapEntry)]).length) }) ?_ (hK _ _ _ _ L (Rel.step hS hF hG hN hd hn q.1 q.2 (pA hj) ?_)))
   ·simp[execOp,ho,e0,Instr.mapEntry,run_underlying ab,MapKept.run_getObj_map Z,ae,ag,ai,MapKept.run_setObj_map _ Z]
   ·simp only[rep,aR];exact⟨[zv,goInt ms.length],by simp,_,_,rfl,ac _ _,_,_,rfl,by rw[<-sW _ _ _ u];rfl,rfl⟩
  ·exact L.elim
 ·simp only at L;have O:ms.set i ⟨a.eval x,me.val,i⟩=ms:=by
   have e0:(⟨a.eval x,me.val,i⟩:MapEntry)=me:=by rw[<-q4,<-q6]
   rw[e0];apply List.ext_getElem?;intro k;rw[List.getElem?_set];by_cases e:i=k
   ·subst e;have F:i<ms.length:=(List.getElem?_eq_some_iff.1 q1).1;rw[q1];simp[F]
   ·simp[e]
  have hm:({ w with heap:=w.heap.setIfInBounds g (.map ms.toArray ms.length) }:World)=w:=by
   have hh:w.heap.setIfInBounds g (.map ms.toArray ms.length)=w.heap:=by
    apply Array.ext_getElem?;intro k;rw[Array.getElem?_setIfInBounds];by_cases e:g=k
    ·subst e;rw[Z];simp[F]
    ·simp[e]
   rw[hh]
  obtain⟨xk,xv,rfl,r1,r2⟩:=Bv q7;have e1:(r.es.getD i []).getD 1 .any=xv:=by simp[List.getD,q2]
  rw[e1]at L;refine dT hw (cO (v:=.tuple #[me.val,goInt i]) (w':=w) ?_ (hK _ _ _ _ L (Rel.step hS hF hG hN hd hn hS (Grow.refl S w) (dK.refl _ _) ?_)))
  ·have af:=Bz (P:=P) q5;have J:=MapKept.run_setObj_map (P:=P) (.map (List.toArray ms) ms.length) Z;rw[hm]at J;simp[execOp,ho,e0,Instr.mapEntry,run_underlying ab,MapKept.run_getObj_map Z,ae,q3,q1,af,nL q1,O,J,q6]
  ·simp only[rep,aR];exact⟨[me.val,goInt i],by simp,_,_,rfl,r2,_,_,rfl,rfl,rfl⟩
def CN:∀(i:Nat) (es:List (List AV)) (ms:List MapEntry) (j:Nat) {m:MapEntry},gO S w i es ms->ms[j]?=some m->ms.findIdx? (fun e=>(e.born:Int) == ((i+j:Nat):Int))=some j
 | _,[],ms,j,m,h,hj=>by simp only[gO]at h;subst h;simp at hj
 | i,c::r,ms,0,m,h,hj=>by simp only[gO]at h;obtain⟨F,t,rfl,h1,_,E⟩:=h;simp[List.findIdx?_cons,h1]
 | i,c::r,ms,j+1,m,h,hj=>by
  simp only[gO]at h;obtain⟨F,t,rfl,h1,_,E⟩:=h;have ih:=CN (i+1) r t j E (by simpa using hj);have u:((F.born:Int) == ((i+(j+1):Nat):Int))=false:=by simp[h1];omega
  rw[List.findIdx?_cons,u,show i+(j+1)=i+1+j by omega,ih];rfl
def xG{t:TypeId}{m s v:Operand}(hS:St S w H)(hF:FR S w ρ a)(hG:Grow S0 w0 S w)(hN:dK S0.N H0 H)(hd:a.defers=[])(hn:a.tmps.size=n)(ho:o.op=.entryStore t m s v)(M:∀x∈o.op.operands,opB a.tmps.size x=true)
  (hw:Region.wanted o (yielded ops a.tmps)=true) (hK:∀J H' a' w',K J H'->Rel n S0 w0 H0 J H' a' w'->K' a' w')
  (h:aX none (aev ρ m) fun m=>aX none (aev ρ s) fun s=>aX none (aev ρ v) fun v=>nZ o m s v ρ H K):rW P ops o a w K' Q':=by
 rw[ho]at M;simp only[Op.operands]at M;obtain⟨m',h,hm⟩:=aK (S:=S) (w:=w) h;obtain⟨s',h,hs⟩:=aK (S:=S) (w:=w) h;obtain⟨v',h,hv⟩:=aK (S:=S) (w:=w) h;have em:=hm trivial _ (bQ hF (M m (by simp)));have es:=hs trivial _ (bQ hF (M s (by simp)));have aa:=hv trivial _ (bQ hF (M v (by simp)));unfold nZ at h;split at h
 ·rename_i j kd i _ _;split at h
  ·rename_i r hj;obtain⟨⟨i0,i1⟩,h⟩:=h;simp only[rep]at em es;obtain⟨_,Z,g0,O⟩:=em;rw[Z]at O;obtain⟨g,ms,hl,hg,u,ac⟩:=(hS.rows j r hj).mp O;have ab:g<w.heap.size:=(Array.getElem?_eq_some_iff.1 hg).1;obtain⟨F,g1,g2,g3⟩:=I2 0 _ _ i.toNat u (by omega);obtain⟨xk,xv,e1,r1,r2⟩:=Bv g3;have e2:(r.es.getD i.toNat []).getD 0 .any=xk:=by rw[e1];rfl
   rw[e2]at h;have E:=wB (m:=⟨F.key,a.eval v,F.born⟩) (cs:=[xk,v']) 0 _ _ i.toNat u (by simpa using g2) (by simp only[aR];exact⟨_,_,rfl,r1,_,_,rfl,aa,rfl⟩);have q:=hS.setMap hj hl E ac ab;have L:=CN 0 _ _ i.toNat u g1;rw[Nat.zero_add,Int.toNat_of_nonneg i0]at L;refine dT hw (pQ (w':={ w with heap:=w.heap.setIfInBounds g (.map (ms.set i.toNat ⟨F.key,a.eval v,F.born⟩).toArray (ms.set i.toNat (⟨F.key,a.eval v,F.born⟩:MapEntry)).length) }) ?_ (hK _ _ _ _ h (Rel.step hS hF hG hN hd hn q.1 q.2 (pA hj) (by simp only[rep]))));rw[hl]at Z;simp[execOp,ho,Z,es,asInt,asIntOf,Instr.entryStore,MapKept.run_getObj_map hg,L,MapKept.run_setObj_map _ hg,nL g1]
  ·exact h.elim
 ·exact h.elim
def CD{t:TypeId}(E:St S w H)(hF:FR S w ρ a)(hG:Grow S0 w0 S w)(hN:dK S0.N H0 H)(M:a.defers=[])(J:a.tmps.size=n)(O:o.op=.makeMap t none)
  (Z:Region.wanted o (yielded ops a.tmps)=true) (L:∀u H' F w',K u H'->Rel n S0 w0 H0 u H' F w'->K' F w')
  (h:iJ H ⟨0,2,[]⟩ fun k H'=>K (upd ρ o.dst (.om k)) H'):rW P ops o a w K' Q':=by
 have q:=E.newMap (w':=w.alloc (.map #[] 0)) rfl rfl rfl rfl;refine dT Z (cO (v:=.map (some w.heap.size)) (w':=w.alloc (.map #[] 0)) ?_ (L _ _ _ _ (h S.N E.fresh) (Rel.step E hF hG hN M J q.1 q.2 (jR E) ?_)))
 ·simp[execOp,O,Instr.makeMap]
 ·simp only[rep,Sg.addRow,if_true];exact⟨Nat.lt_succ_self _,trivial,_,rfl⟩
def tS{ai:Bool}(am:∀o∈ops,fZ n o=true)(F:St S w H)(hF:FR S w ρ a)(Z:Grow S0 w0 S w)(hN:dK S0.N H0 H)(O:a.defers=[])(M:a.tmps.size=n)(hb:fZ n o=true)
   (hK:∀al H' a' w',K al H'->Rel n S0 w0 H0 al H' a' w'->K' a' w') (h:aop P (aI P) (dV P) mt ai ops o ρ H K):rW P ops o a w K' Q':=by
 obtain⟨L,_⟩:=qF hb;unfold aop at h;obtain⟨G,h2,E⟩:=qN am hF M h;clear h;have h:=h2;clear h2;split at h
 . -- assign
   rename_i x J;unfold vX at h;split at h
   . rename_i ag;obtain⟨_,rfl,_,hx⟩:=ag;have hx:x=.const (.slice none 0 0):=by
       unfold mN at hx;split at hx
       . rfl
       . simp at hx
     subst hx;split at h
     . rename_i e sz ak he;obtain⟨i,z,hu,hi,ao,_,aa,_⟩:=dU he;have hw:=cH E rfl;have q:=F.nilRow e aa;refine dT hw (cO (v:=.slice none 0 0) (w':=w) (by simp[execOp,J,Act.eval]) (hK _ _ _ _ (h S.N F.fresh) (Rel.step F hF Z hN O M q.1 q.2 (jR F) ?_)));simp only[rep,Sg.addRow,if_true];exact⟨Nat.lt_succ_self _,trivial,_,_,_,rfl⟩
     . exact h.elim
   . exact mG F hF Z hN O M L E hK (by rw[J];exact h)
 . -- alloc
   rename_i t J;split at h
   . rename_i z hz;obtain⟨rfl,_,h⟩:=h;have hw:=cH E rfl;split at h
     . split at h
       . rename_i nl an;exact Gn F hF Z hN O M J hz hw hK an h
       . exact h.elim
     obtain⟨v,i,hi,rfl,h1,aw,ae⟩:=Nj hz (.tuple #[]) w;obtain⟨S',q1,q2,q3⟩:=xP (t:=t) (cs:=v.cells.toList.map lA) (l:=v.cells.toList) F (by simp;omega) (iD _) h1;refine dT hw (cO (v:=.pointer (some ⟨w.heap.size,0,none⟩)) (w':=w.alloc (.cells v.cells t)) (by simp[execOp,J,ae]) (hK _ _ _ _ (h S.N F.fresh) (Rel.step F hF Z hN O M (by simpa using q1) (by simpa using q2) (jR F) (by simpa using q3))))
   . exact h.elim
 . -- box
   rename_i t x J;obtain⟨rfl,_,h⟩:=h;have hw:=cH E rfl;obtain⟨y,h2,hy⟩:=aK (S:=S) (w:=w) h;obtain⟨cs,h3,aj⟩:=qX (S:=S) (w:=w) h2;have hx:opB a.tmps.size x=true:=M▸L x (by simp[J,Op.operands]);obtain⟨l,e1,e2,e3⟩:=aj _ (hy trivial _ (bQ hF hx));have ae:(execOp a.eval o).run P w=.ok (.value (.pointer (some ⟨w.heap.size,0,none⟩))) (w.alloc (.cells l.toArray t)):=by simp[execOp,J,RP,e1]
   unfold Sc at h3;split at h3
   . obtain⟨aa,h4⟩:=h3;obtain⟨S',q1,q2,q3⟩:=xP (t:=t) F aa e2 e3;exact dT hw (cO ae (hK _ _ _ _ (h4 S.N F.fresh) (Rel.step F hF Z hN O M q1 q2 (jR F) q3)))
   . have q:=F.newRo (o:=.cells l.toArray t) (w':=w.alloc (.cells l.toArray t)) rfl rfl rfl rfl;refine dT hw (cO ae (hK _ _ _ _ h3 (Rel.step F hF Z hN O M q.1 q.2 (dK.refl _ _) ?_)));simp only[rep];refine⟨w.heap.size,0,by simp,.inr rfl,?_⟩;refine fE _ l 0 (cP q.2.le (q.2.kept F) _ _ e2) e3 fun j u hj=>?_
     rw[cell_of_row (w.alloc (.cells l.toArray t)) w.heap.size (0+j) l.toArray t (0,0) (heap_alloc_new w _)];simpa using hj
 . -- buildSlice
   rename_i t m ab J;obtain⟨_,h⟩:=h;obtain⟨ps,h2,av⟩:=jN hF ab.toList (fun p hp=>M▸L p.2 (by rw[J];simpa[Op.operands]using⟨p.1,by simpa using hp⟩)) h;unfold jE at h2;split at h2
   . rename_i e sz ak he;obtain⟨⟨p1,p2,p3⟩,h3⟩:=h2;have go:∀(_:gt G),∃xs:List Value,(execOp a.eval o).run P w=.ok (.value (.slice (some ⟨w.heap.size,0,none⟩) m m)) (w.alloc (.cells xs.toArray e))/\aR S w (ps.map (·.2)).flatten xs/\(∀u∈xs,u.oneCell'=true)/\ps.length=m/\xs.length=m*sz:=fun hg=>by
       obtain⟨f1,f2⟩:=av hg;have hl:(ab.map fun(p:Nat×Operand)=>(p.1,a.eval p.2)).toList=ab.toList.map fun p=>(p.1,a.eval p.2):=by simp
       rw[<-hl]at f1 f2;obtain⟨xs,g1,g2,g3,g4,g5⟩:=BC (w:=w) he p1 p2 f1 f2 p3;refine⟨xs,?_,g2,g3,g4,g5⟩;simp only[execOp,J];exact HJ g1
     obtain⟨ax,z,hu,hi,ao,_,aa,_⟩:=dU he;split at h3
     . rename_i ag;obtain⟨_,rfl⟩:=ag;have hw:=cH E rfl;obtain⟨xs,g1,g2,g3,g4,g5⟩:=go trivial;have ac:(ps.map (·.2)).length=m:=by simpa using g4
       have q:=F.newRow (e:=e) (sz:=sz) (cap:=m) (es:=ps.map (·.2)) (xs:=xs) (cur:=xs.toArray) aa (eH.1 p2) g2 g3 (by omega) (by simp only[maxLen];have:m<=m*sz:=Nat.le_mul_of_pos_right _ aa;omega) (by simpa using g5)
         (by rw[ac,List.take_of_length_le (by simp[g5])]) (w':=w.alloc (.cells xs.toArray e)) rfl rfl rfl rfl
       refine dT hw (cO g1 (hK _ _ _ _ (h3 S.N F.fresh) (Rel.step F hF Z hN O M q.1 q.2 (jR F) ?_)));simp only[rep,Sg.addRow,if_true];exact⟨Nat.lt_succ_self _,by rw[ac],_,_,_,rfl⟩
     . refine And.symm ⟨fun hw=>?_,fun hw=>?_⟩
       . have af:¬gt G:=fun h=>by rw[E.2 h]at hw;simp at hw
         exact hK _ _ _ _ h3 (Rel.step F hF Z hN O M F (Grow.refl S w) (dK.refl _ _) (dA af))
       have af:=E.1 hw;obtain⟨xs,g1,g2,g3,g4,g5⟩:=go af;have ac:(ps.map (·.2)).length=m:=by simpa using g4
       have q:=F.newRo (o:=.cells xs.toArray e) (w':=w.alloc (.cells xs.toArray e)) rfl rfl rfl rfl;refine cO g1 (hK _ _ _ _ h3 (Rel.step F hF Z hN O M q.1 q.2 (dK.refl _ _) (dP af ?_)));simp only[rep];refine⟨_,_,_,rfl,ac,Nat.le_refl _,by simp only[maxLen];have:m<=m*sz:=Nat.le_mul_of_pos_right _ aa;omega,.inr ⟨w.heap.size,0,sz,rfl,.inr rfl,aa,?_⟩⟩;refine kW _ _ (eH.1 p2) (fE _ xs 0 (cP q.2.le (q.2.kept F) _ _ g2) g3 fun j u hj=>?_);rw[cell_of_row (w.alloc (.cells xs.toArray e)) w.heap.size (0+j) xs.toArray e (0,0) (heap_alloc_new w _)];simpa using hj
   . exact h2.elim
 . -- store
   rename_i t x y J;obtain⟨rfl,_,h⟩:=h;have hw:=cH E rfl;split at h
   . rename_i ah;have hy:y=.const (.slice none 0 0):=by
       unfold mN at ah;split at ah
       . rfl
       . simp at ah
     subst hy;exact Aj (K2:=fun _=>True) F hF Z hN O M J (fun x hx=>M▸L x hx) hw hK h
   obtain⟨x',h2,aq⟩:=aK (S:=S) (w:=w) h;obtain⟨y',h3,au⟩:=aK (S:=S) (w:=w) h2;obtain⟨cs,h4,aj⟩:=qX (S:=S) (w:=w) h3;have ar:opB a.tmps.size x=true:=M▸L x (by simp[J,Op.operands]);have ap:opB a.tmps.size y=true:=M▸L y (by simp[J,Op.operands]);have ex:=aq trivial _ (bQ hF ar);obtain⟨l,e1,e2,e3⟩:=aj _ (au trivial _ (bQ hF ap));exact xA F hF Z hN O M J hw hK ex e1 e2 e3 h4
 . rename_i c J;exact Io F hF Z hN O M J L E hK h
 all_goals first
   | exact h.elim
   | (rename_i J; split at h
      . obtain⟨rfl,_,h⟩:=h;exact Fu F hF Z hN O M J (fun x hx=>M▸L x hx) (cH E rfl) hK h
      . exact mG F hF Z hN O M L E hK (by rw[J];exact h))
   | (rename_i J; split at h
      . obtain⟨rfl,_,h⟩:=h;exact Ke F hF Z hN O M J L E hK h
      . exact mG F hF Z hN O M L E hK (by rw[J];exact h))
   | (rename_i J; split at h
      . obtain⟨rfl,h⟩:=h;split at h
        . exact Ev F hF Z hN O M J (fun x hx=>M▸L x hx) (cH E rfl) hK h
        . exact EG F hF Z hN O M J (fun x hx=>M▸L x hx) (cH E rfl) hK h
      . exact mG F hF Z hN O M L E hK (by rw[J];exact h))
   | (rename_i J;obtain⟨rfl,_,h⟩:=h;exact Am F hF Z hN O M J (fun x hx=>M▸L x hx) (cH E rfl) hK h)
   | (rename_i J;exact mG F hF Z hN O M L E hK (by rw[J];exact h))
   | (rename_i J;obtain⟨rfl,_,h⟩:=h;exact CD F hF Z hN O M J (cH E rfl) hK h)
   | (rename_i J;obtain⟨rfl,_,h⟩:=h;exact Aa F hF Z hN O M J (fun x hx=>M▸L x hx) (cH E rfl) hK h)
   | (rename_i J;obtain⟨rfl,_,h⟩:=h;exact EZ F hF Z hN O M J (fun x hx=>M▸L x hx) (cH E rfl) hK h)
   | (rename_i J;obtain⟨rfl,_,h⟩:=h;exact B7 F hF Z hN O M J (fun x hx=>M▸L x hx) (cH E rfl) hK h)
   | (rename_i J;obtain⟨rfl,_,h⟩:=h;exact xG F hF Z hN O M J (fun x hx=>M▸L x hx) (cH E rfl) hK h)
end
end Go.Aw
end
section
namespace Go.Aw
open Go.RowKit
section
variable{P:Program}{ops:Array Oper}{md:Region.Mode}{C:World->Prop}{R:World->World->Prop}{Q':Exit->Act->World->Prop}
def goes(P:Program)(K:Value->World->Prop):Result Next->Prop
 | .ok (.value v) w'=>K v w'
 | .ok .skip w'=>K undef w'
 | .ok (.enter f args) w'=>Calls P f args w' fun e w''=>∃v,e=.returned v/\K v w''
 | .ok (.row row args) w'=>Rows P row args w' K
 | _=>False
def gAt(P:Program)(o:Oper)(a:Act)(w:World)(K:Value->World->Prop):Prop:=goes P K ((execOp a.eval o).run P w)
def gOp(P:Program)(ops:Array Oper)(i:Nat)(K:Act->World->Prop)(a:Act)(w:World):Prop:=
 match ops[i]? with
 | none=>False
 | some o=>if Region.wanted o (yielded ops a.tmps)=true then gAt P o a w (fun v w'=>K (a.put o.dst v) w')else K (a.put o.dst undef) w
def mH{K K':Value->World->Prop}(h:∀v w,K v w->K' v w){r:Result Next}(E:goes P K r):goes P K' r:=by
 cases r with
 | ok n w'=>
  cases n <;> simp only[goes]at E |-
  case value u=>exact h _ _ E
  case skip=>exact h _ _ E
  case enter f args=>exact E.mono fun e L ⟨v,F,J⟩=>⟨v,F,h _ _ J⟩
  case row row args=>exact E.mono h
 | halt x w'=>simp only[goes]at E
def Bd{i:Nat}{a:Act}{w:World}{K K':Act->World->Prop}(h:∀a w,K a w->K' a w)(u:gOp P ops i K a w):gOp P ops i K' a w:=by
 unfold gOp at *;split
 ·rename_i E;simp only[E]at u
 ·rename_i o E;simp only[E]at u;split
  ·rename_i F;rw[if_pos F]at u;exact mH (fun v w' J=>h _ _ J) u
  ·rename_i F;rw[if_neg F]at u;exact h _ _ u
def N9{o:Oper}{a:Act}{w:World}{K:Act->World->Prop}(h:gAt P o a w (fun v w'=>K (a.put o.dst v) w')):o.wp P a w K Q':=by
 unfold Oper.wp;unfold gAt at h;generalize (execOp a.eval o).run P w=r at *;cases r with
 | ok n w'=>
  cases n <;> simp only[goes]at h <;> simp only[Oper.upon]
  case value u=>exact h
  case skip=>exact h
  case enter f args=>exact h.mono fun e J ⟨v,E,F⟩=>by subst E;exact F
  case row row args=>exact h
 | halt x w'=>simp only[goes]at h
def Gm{i:Nat}{a:Act}{w:World}{K:Act->World->Prop}(h:gOp P ops i K a w):wpOp P ops Q' i K a w:=by
 unfold gOp at h;unfold wpOp;split
 ·rename_i u;simp only[u]at h
 ·rename_i o u;simp only[u]at h;split
  ·rename_i E;rw[if_pos E]at h;exact .inl (N9 h)
  ·rename_i E;rw[if_neg E]at h;exact h
def ER{o:Oper}{a:Act}{w:World}{v:Value}{D:World->Prop}(F:D w)(h:o.quietAt P a D w v):gAt P o a w (fun u w'=>u=v/\D w'):=by
 unfold Oper.quietAt at h;unfold gAt;generalize (execOp a.eval o).run P w=r at *;cases r with
 | ok n w'=>
  cases n <;> simp only[Oper.quietUpon]at h <;> simp only[goes]
  case value u=>obtain⟨E,e2⟩:=h;rw[E];exact⟨e2,F⟩
  case skip=>obtain⟨E,e2⟩:=h;rw[E];exact⟨e2.symm,F⟩
  case enter f args=>obtain⟨E,L⟩:=h;rw[E];exact L.mono fun e M ⟨J,O⟩=>⟨v,J,rfl,O⟩
 | halt x w'=>simp only[Oper.quietUpon]at h
def gH(P:Program)(md:Region.Mode)(ops:Array Oper)(C:World->Prop)(R:World->World->Prop)(Q':Exit->Act->World->Prop):Nat->Array Bool->Act->World->Prop
 | 0,listed,a,w=>Region.ready md ops listed=[]/\Q' .normal a w
 | f+1,listed,a,w=>Region.ready md ops listed≠[] /\
   ∀i∈Region.ready md ops listed,gOp P ops i (fun a' w'=>C w'/\∀w2,R w' w2->gH P md ops C R Q' f (listed.setIfInBounds i true) a' w2) a w
def rK(hR:∀w,R w w):∀(f:Nat) (listed:Array Bool) (a:Act) (w:World),gH P md ops C R Q' f listed a w->wpAny P md ops Q' f listed a w
 | 0,_,_,_,h=>h
 | f+1,_,_,_,h=>⟨fun h0=>absurd h0 h.1,fun i hi=>Gm (Bd (fun E w' u=>rK hR f _ _ _ (u.2 w' (hR w'))) (h.2 i hi))⟩
def YQ(P:Program)(ops:Array Oper)(C:World->Prop)(R:World->World->Prop)(o:Oper)(v:Value)(a:Act):Prop:=
 (Region.wanted o (yielded ops a.tmps)=true/\∀w,C w->o.quietAt P a (R w) w v)\/(Region.wanted o (yielded ops a.tmps)=false/\v=undef)
def YQ.of_same{o:Oper}{v:Value}{a u:Act}(E:YQ P ops C R o v a)(F:execOp u.eval o=execOp a.eval o)
  (J:Region.wanted o (yielded ops u.tmps)=Region.wanted o (yielded ops a.tmps)):YQ P ops C R o v u:=by
 unfold YQ Oper.quietAt at *;rw[F,J];exact E
def RI{j:Nat}{E F:Oper}{v:Value}(hj:ops[j]?=some F)(O:E.apart ops F=true)
  (M:∀cs b,E.op≠.select cs b) (L:∀cs b,F.op≠.select cs b) {K:Act->World->Prop} {a:Act} {w:World}
  (hy:YQ P ops C R E v a) (h:gOp P ops j K (a.put E.dst v) w):
  gOp P ops j (fun Z w'=>YQ P ops C R E v Z/\K (Z.put E.dst v) w') a w:=by
 obtain⟨h1,h2,h3⟩:=Oper.apart_spec O;have keep:∀u,YQ P ops C R E v (a.put F.dst u):=fun u=>hy.of_same (execOp_put E M a F.dst u h3) (wanted_put E a F.dst u h3)
 unfold gOp at *;simp only[hj]at *;rw[wanted_put F a E.dst v h1]at h;split
 ·rename_i J;rw[if_pos J]at h;unfold gAt at *;rw[execOp_put F L a E.dst v h1]at h;exact mH (fun u w' hk=>⟨keep u,by rw[<-Act.put_comm a v u h2];exact hk⟩) h
 ·rename_i J;rw[if_neg J]at h;exact⟨keep _,by rw[<-Act.put_comm a v undef h2];exact h⟩
def Dh{i:Nat}{F:Oper}{v:Value}{a:Act}{w:World}(hi:ops[i]?=some F)(J:C w)(hR:∀w,R w w)(M:YQ P ops C R F v a){K:Act->World->Prop}(h:∀w',R w w'->K (a.put F.dst v) w'):
  gOp P ops i K a w:=by
 unfold gOp;simp only[hi];rcases M with⟨E,L⟩|⟨E,rfl⟩
 ·rw[if_pos E];exact mH (fun u w' ⟨e,O⟩=>by subst e;exact h w' O) (ER (hR w) (L w J))
 ·rw[if_neg (by simp[E])];exact h w (hR w)
def iL{i:Nat}{oi:Oper}{v:Value}(hi:ops[i]?=some oi)(aa:∀(j:Nat) (o:Oper) cs b,ops[j]?=some o->o.op≠.select cs b)
   (hR:∀w,R w w) (hT:∀w w' aj,R w w'->R w' aj->R w aj) (ab:∀w w',C w->R w w'->C w'):
   ∀(f:Nat) (u:Array Bool) (a:Act) (w:World),C w ->
     (∀j oj,ops[j]?=some oj->j≠i->u.getD j true=false->(∀e∈oj.after,Region.binds md e=true->e.on≠i)->oi.apart ops oj=true) ->
     i∈Region.ready md ops u->YQ P ops C R oi v a ->
     (∀M,R w M->gH P md ops C R Q' f (u.setIfInBounds i true) (a.put oi.dst v) M)->gH P md ops C R Q' (f+1) u a w:=by
 intro f;induction f with
 | zero=>
   intro u a w hC _ hr hy H;refine⟨fun h=>(by rw[h]at hr;cases hr),fun j hj=>?_⟩;by_cases E:j=i
   . subst E;exact Dh hi hC hR hy fun w' J=>⟨ab _ _ hC J,fun M O=>H M (hT _ _ _ J O)⟩
   . have:=ready_mono hj E;rw[(H w (hR w)).1]at this;cases this
 | succ f ih=>
   intro u a w hC F hr hy H;refine⟨fun h=>(by rw[h]at hr;cases hr),fun j hj=>?_⟩;by_cases E:j=i
   . subst E;exact Dh hi hC hR hy fun w' J=>⟨ab _ _ hC J,fun M O=>H M (hT _ _ _ J O)⟩
   . have h1:=(H w (hR w)).2 j (ready_mono hj E);obtain⟨Z,oj,ac,af⟩:=mem_ready.1 hj;have ah:∀e∈oj.after,Region.binds md e=true->e.on≠i:=fun e he hb an=>by
       have h1:=af e he hb;have h0:=(mem_ready.1 hr).1;rw[an]at h1;rcases Nat.lt_or_ge i u.size with h'|h'
       . simp[h']at h0 h1;rw[h0]at h1;cases h1
       . simp[Array.getElem?_eq_none h']at h1
     have O:=RI ac (F j oj ac E Z ah) (fun cs b=>aa i oi cs b hi) (fun cs b=>aa j oj cs b ac) hy h1;have L : ∀ k ok, ops[k]? = some ok -> k ≠ i -> (u.setIfInBounds j true).getD k true = false ->
         (∀e∈ok.after,Region.binds md e=true->e.on≠i)->oi.apart ops ok=true:=fun k ok hk al ae am=>by
       refine F k ok hk al ?_ am;by_cases ag:j=k
       . subst ag;exact Z
       . rw[getD_set_ne true ag]at ae;exact ae
     refine Bd (fun a' w' ⟨ak,ai,hk⟩=>⟨ai,fun M O=>ih (u.setIfInBounds j true) a' M (ab _ _ ai O) L (ready_mono hr (Ne.symm E)) ak fun w3 h3=>?_⟩) O;rw[Array.setIfInBounds_comm _ _ E];exact hk w3 (hT _ _ _ O h3)
end
def Rw(w w':World):Prop:=w'.os=w.os/\w'.tape=w.tape/\w'.output=w.output/\w.heap.size<=w'.heap.size/\∀k,k<w.heap.size->w'.heap[k]?=w.heap[k]?
def Rw.refl(w:World):Rw w w:=⟨rfl,rfl,rfl,Nat.le_refl _,fun _ _=>rfl⟩
def Rw.trans{w w' u:World}(h:Rw w w')(E:Rw w' u):Rw w u:=
 ⟨E.1.trans h.1,E.2.1.trans h.2.1,E.2.2.1.trans h.2.2.1,Nat.le_trans h.2.2.2.1 E.2.2.2.1,fun k F=>(E.2.2.2.2 k (Nat.lt_of_lt_of_le F h.2.2.2.1)).trans (h.2.2.2.2 k F)⟩
def Cb(S:Sg)(wb w:World):Prop:=w.os=wb.os/\w.tape=wb.tape/\w.output=wb.output/\wb.heap.size<=w.heap.size/\∀k,S.fz k->w.heap[k]?=wb.heap[k]?
def Cb.rw{S:Sg}{wb w w':World}{H:aD}(F:St S wb H)(h:Cb S wb w)(u:Rw w w'):Cb S wb w':=
 ⟨u.1.trans h.1,u.2.1.trans h.2.1,u.2.2.1.trans h.2.2.1,Nat.le_trans h.2.2.2.1 u.2.2.2.1,fun k E=>(u.2.2.2.2 k (Nat.lt_of_lt_of_le (F.fz_lt k E) h.2.2.2.1)).trans (h.2.2.2.2 k E)⟩
def Rw.cb{S:Sg}{wb w:World}{H:aD}(E:St S wb H)(h:Rw wb w):Cb S wb w:=⟨h.1,h.2.1,h.2.2.1,h.2.2.2.1,fun k u=>h.2.2.2.2 k (E.fz_lt k u)⟩
def Cb.st{S:Sg}{wb w:World}{H:aD}(E:St S wb H)(h:Cb S wb w):St S w bJ:=
 ⟨E.ro_fz,fun k u=>Nat.lt_of_lt_of_le (E.fz_lt k u) h.2.2.2.1,fun k r u=>by simp[bJ]at u,fun k r u=>by simp[bJ]at u,fun k k' r r' u=>by simp[bJ]at u,E.tabs.keep S.le_refl (fun k u=>h.2.2.2.2 k (E.ro_fz k u))⟩
def Cb.kept{S:Sg}{wb w:World}{H:aD}(E:St S wb H)(h:Cb S wb w):eG S wb w:=fun k u=>h.2.2.2.2 k (E.ro_fz k u)
def Cb.agree{S:Sg}{wb w:World}{H:aD}(E:St S wb H)(h:Cb S wb w):Agree S bJ wb w:=⟨h.kept E,fun k r u=>by simp[bJ]at u⟩
def Grow.cb{S S':Sg}{wb w:World}(h:Grow S wb S' w):Cb S wb w:=⟨h.os,h.tape,h.output,h.size,h.same⟩
section
variable{P:Program}{n:Nat}{S0:Sg}{w0:World}{H0:aD}{mt:Nat->Bool}{ops:Array Oper}{K:Env->aD->Prop}{ρ:Env}{H:aD}{a:Act}{w:World}
def Rel.rw{w':World}(h:Rel n S0 w0 H0 ρ H a w)(u:Rw w w'):Rel n S0 w0 H0 ρ H a w':=by obtain⟨S,E,hF,M,hN,L,J⟩:=h;have F:=E.grow u.1 u.2.1 u.2.2.1 u.2.2.2.1 u.2.2.2.2;exact⟨S,E.after u.2.2.2.1 u.2.2.2.2,hF.keep S.le_refl (F.kept E),M.trans F,hN,L,J⟩
def yD{o:Oper}{K':Act->World->Prop}(F:∀a w,K' a w->a.defers=[])(h:o.wp P a w K' fun _ _ _=>False):gAt P o a w fun v w'=>K' (a.put o.dst v) w':=by
 unfold Oper.wp at h;unfold gAt;generalize (execOp a.eval o).run P w=r at *;cases r with
 | ok m w'=>
  cases m <;> simp only[Oper.upon]at h <;> simp only[goes]
  case value u=>exact h
  case skip=>exact h
  case enter f args=>
   refine h.mono fun e J E=>?_
   cases e
   case returned v=>exact⟨v,rfl,E⟩
   case panicked c=>exact E.elim
   case outgrown=>obtain⟨_,_,h⟩:=E;exact h.elim
  case defer d=>have:=F _ _ h;rw[kN]at this;simp at this
  case row row args=>exact h
 | halt x w'=>cases x <;> simp only[Oper.upon]at h
variable{S:Sg}
def rA{o:Oper}{w1:World}{CC:World->Prop}(F:∀w,CC w->St S w H/\Agree S H w1 w)(M:St S w1 H)(hF:FR S w1 ρ a)(J:a.tmps.size=n)(Z:∀x∈o.op.operands,opB n x=true){G:Option Bool}
  (u:Region.wanted o (yielded ops a.tmps)=true↔gt G) (h:eR P G ρ H o.op fun x=>K (upd ρ o.dst (wr G x)) H):
  ∃z,K (upd ρ o.dst z) H/\(Region.wanted o (yielded ops a.tmps)=true->∃v,rep S w1 z v/\∀w,CC w->o.quietAt P a (Rw w) w v)/\(Region.wanted o (yielded ops a.tmps)=false->rep S w1 z undef):=by
 obtain⟨z,hz,hg⟩:=zP (J▸Z) hF M.rows h;refine⟨_,hz,fun E=>?_,fun E=>?_⟩
 ·obtain⟨v,O,hr⟩:=hg (u.1 E);refine⟨v,dP (u.1 E) O,fun w L=>?_⟩;unfold Oper.quietAt;rw[hr w (F w L).2 o rfl];exact⟨rfl,rfl⟩
 ·exact dA fun h=>by rw[u.2 h]at E;simp at E
def IL{o:Oper}{c:Call}{w1:World}{CC:World->Prop}(ac:∀w,CC w->St S w H/\Agree S H w1 w)(hS:St S w1 H)(hF:FR S w1 ρ a)(hn:a.tmps.size=n)(ho:o.op=.call c)(hb:∀x∈o.op.operands,opB n x=true){G:Option Bool}
  (O:Region.wanted o (yielded ops a.tmps)=true↔gt G) {nl:Bool} (h:wM P (aI P) (dV P) nl true G o c ρ H K):
  ∃z,K (upd ρ o.dst z) H/\(Region.wanted o (yielded ops a.tmps)=true->∃v,rep S w1 z v/\∀w,CC w->o.quietAt P a (Rw w) w v)/\(Region.wanted o (yielded ops a.tmps)=false->rep S w1 z undef):=by
 rw[ho]at hb;simp only[Op.operands,Call.operands]at hb;unfold wM at h;split at h
 ·rename_i b hc;obtain⟨ys,h2,ae⟩:=jF hF c.args.toList (fun x hx=>hn▸hb x (by simp[Array.mem_toList_iff.1 hx])) h;clear h;have h:=h2;clear h2;split at h
  ·rename_i x t L;obtain⟨z,hz,hl⟩:=AG (G:=G) (ty:=o.type) hS.rows h;refine⟨_,hz,fun M=>?_,fun M=>dA fun h=>by rw[O.2 h]at M;simp at M⟩;have F:=O.1 M;have hr:=ae F;simp only[aR]at hr;obtain⟨u,t',e1,e2,rfl⟩:=hr;obtain⟨v,hv,Z⟩:=hl F u e2;have ea:c.args.map a.eval=#[u]:=Array.toList_inj.1 (by simpa using e1);have et:c.argTypes=#[t]:=Array.toList_inj.1 (by simpa using L);refine⟨v,dP F hv,fun w aa=>?_⟩;unfold Oper.quietAt;have:(execOp a.eval o).run P w=.ok (.value v) w:=by simp[execOp,ho,resolve,hc,invoke,builtin,ea,et,Z w (ac w aa).2]
   rw[this];exact⟨rfl,rfl⟩
  ·split at h
   ·rename_i J;simp at J
   ·exact h.elim
  ·split at h
   ·rename_i J;simp at J
   ·exact h.elim
  ·split at h
   ·rename_i J;simp at J
   ·exact h.elim
  ·rename_i x y t t' L;obtain⟨z,hz,hl⟩:=BZ (P:=P) (S:=S) (w:=w1) (H:=H) (G:=G) (tys:=c.argTypes) (ty:=o.type) h;refine⟨_,hz,fun M=>?_,fun M=>dA fun h=>by rw[O.2 h]at M;simp at M⟩
   ·have F:=O.1 M;have hr:=ae F;simp only[aR]at hr;obtain⟨us,t1,e1,e2,ux,t2,rfl,e3,rfl⟩:=hr;obtain⟨v,hv,Z⟩:=hl F us ux e2 e3;have ea:c.args.map a.eval=#[us,ux]:=Array.toList_inj.1 (by simpa using e1);refine⟨v,dP F hv,fun w aa=>?_⟩;unfold Oper.quietAt;have:(execOp a.eval o).run P w=.ok (.value v) w:=by simp[execOp,ho,resolve,hc,invoke,builtin,ea,Z w (ac w aa).2]
    rw[this];exact⟨rfl,rfl⟩
  ·rename_i x y t t' L;obtain⟨z,hz,hl⟩:=AZ (P:=P) (S:=S) (w:=w1) (H:=H) (G:=G) (tys:=c.argTypes) (ty:=o.type) h;refine⟨_,hz,fun M=>?_,fun M=>dA fun h=>by rw[O.2 h]at M;simp at M⟩
   ·have F:=O.1 M;have hr:=ae F;simp only[aR]at hr;obtain⟨us,t1,e1,e2,ux,t2,rfl,e3,rfl⟩:=hr;obtain⟨v,hv,Z⟩:=hl F us ux e2 e3;have ea:c.args.map a.eval=#[us,ux]:=Array.toList_inj.1 (by simpa using e1);refine⟨v,dP F hv,fun w aa=>?_⟩;unfold Oper.quietAt;have:(execOp a.eval o).run P w=.ok (.value v) w:=by simp[execOp,ho,resolve,hc,invoke,builtin,ea,Z w (ac w aa).2]
    rw[this];exact⟨rfl,rfl⟩
  ·exact h.elim
 ·rename_i f hc;obtain⟨yf,h2,hf⟩:=aK (S:=S) (w:=w1) h;clear h;have h:=h2;clear h2;split at h
  ·rename_i g am al an;by_cases ah:nl=true
   ·rw[if_pos ah]at h;exact absurd h.2.1 (by decide)
   rw[if_neg ah]at h;obtain⟨ys,h2,ae⟩:=jF hF c.args.toList (fun x hx=>hn▸hb x (by simp[hc,Array.mem_toList_iff.1 hx])) h;clear h;obtain⟨aj,h⟩:=h2;have ao:=fun hg=>uV an (hf hg _ (bQ hF (hn▸hb f (by simp[hc]))))
   have L:gt G->∃first E:Array Value,a.eval f=.func (.func g) first E/\aR S w1 (am++ys++al) (first++c.args.map a.eval++E).toList:=fun hg=>by obtain⟨first,E,h1,h2,h3⟩:=ao hg;refine⟨first,E,h1,?_⟩;simp only[Array.toList_append];refine cA _ _ _ _ (cA _ _ _ _ h2 ?_) h3;simpa using ae hg
   split at h
   ·rename_i J;simp at J
   ·obtain⟨r,hq,hk⟩:=h;by_cases F:gt G
    ·rcases hq F with hq|⟨x,rfl,ap⟩
     ·obtain⟨v,af⟩:=hq.val;rw[GX (by rw[af];rfl)]at hk;refine⟨_,hk,fun M=>?_,fun M=>dA fun h=>by rw[O.2 h]at M;simp at M⟩;obtain⟨first,E,ak,ai⟩:=L F;have ag:∀w,(execOp a.eval o).run P w=.ok (.enter g (first++c.args.map a.eval++E)) w:=fun w=>by simp only[execOp,ho];rw[jV hc ak];simp[invoke,lW aj]
      have hv:=(hq.calls af hS ai).1;refine⟨v,dP F (hv S w1),fun w aa=>?_⟩;have ab:=(hq.calls af (ac w aa).1 (cP S.le_refl (ac w aa).2.kept _ _ ai)).2;unfold Oper.quietAt;rw[ag];refine⟨rfl,?_⟩;rw[Array.toArray_toList]at ab;exact ab
     ·exact hk.elim
    ·obtain⟨z,hk⟩:=Gd hk;refine⟨_,hk,fun M=>absurd (O.1 M) F,fun M=>dA F⟩
  ·exact h.elim
 ·exact h.elim
def uA{o:Oper}{w1:World}{CC:World->Prop}(F:∀w,CC w->St S w H/\Agree S H w1 w)(O:∀o∈ops,fZ n o=true)(M:St S w1 H)(hF:FR S w1 ρ a)(L:a.tmps.size=n)(hb:fZ n o=true)(h:aop P (aI P) (dV P) mt true ops o ρ H K):
   ∃z,K (upd ρ o.dst z) H/\(Region.wanted o (yielded ops a.tmps)=true->∃v,rep S w1 z v/\∀w,CC w->o.quietAt P a (Rw w) w v)/\(Region.wanted o (yielded ops a.tmps)=false->rep S w1 z undef):=by
 obtain⟨E,_⟩:=qF hb;unfold aop at h;obtain⟨G,h2,u⟩:=qN O hF L h;clear h;have h:=h2;clear h2;split at h
 . rename_i x J;unfold vX at h;split at h
   . rename_i Z;simp at Z
   . exact rA F M hF L E u (by rw[J];exact h)
 . split at h
   . simp at h
   . exact h.elim
 . simp at h
 . simp at h
 . simp at h
 . rename_i c J;exact IL F M hF L J E u h
 all_goals first
   | exact h.elim
   | (simp at h;done)
   | (rename_i J; split at h
      . simp at h;done
      . exact rA F M hF L E u (by rw[J];exact h))
   | (rename_i J; split at h
      . obtain⟨rfl,h⟩:=h;rw[if_pos rfl]at h;obtain⟨z,hz,v,hv,hq⟩:=yT (S:=S) (w1:=w1) hF (fun x hx=>L▸E x hx) J h;exact⟨z,hz,fun _=>⟨v,hv,fun w _=>by unfold Oper.quietAt;rw[hq w];exact⟨rfl,rfl⟩⟩,fun hw=>by rw[cH u rfl]at hw;cases hw⟩
      . exact rA F M hF L E u (by rw[J];exact h))
   | (rename_i J;exact rA F M hF L E u (by rw[J];exact h))
def IP{o:Oper}{w1:World}{CC:World->Prop}(F:∀w,CC w->St S w bJ/\Agree S bJ w1 w)(Z:St S w1 H)(hF:FR S w1 ρ a)(M:a.tmps.size=n){t:TypeId}{x:Operand}{lo hi m:Option Operand}(L:o.op=.slice t x lo hi m)(J:∀x∈o.op.operands,opB n x=true){G:Option Bool}
  (u:Region.wanted o (yielded ops a.tmps)=true↔gt G) (h:eR P G ρ H o.op fun x=>K (upd ρ o.dst (wr G x)) H):
  ∃z,K (upd ρ o.dst z) H/\(Region.wanted o (yielded ops a.tmps)=true->∃v,rep S w1 z v/\∀w,CC w->o.quietAt P a (Rw w) w v)/\(Region.wanted o (yielded ops a.tmps)=false->rep S w1 z undef):=by
 rw[L]at J h;obtain⟨z,hz,hg⟩:=wY (H':=bJ) (M▸J) hF Z.rows h;refine⟨_,hz,fun E=>?_,fun E=>?_⟩
 ·obtain⟨v,hv,hr⟩:=hg (u.1 E);refine⟨v,dP (u.1 E) hv,fun w O=>?_⟩;unfold Oper.quietAt;rw[hr w (F w O).2 o L];exact⟨rfl,rfl⟩
 ·exact dA fun h=>by rw[u.2 h]at E;simp at E
def KS{o:Oper}{w1:World}{CC:World->Prop}(J:∀w,CC w->St S w bJ/\Agree S bJ w1 w)(E:∀o∈ops,fZ n o=true)(Z:St S w1 H)(hF:FR S w1 ρ a)(M:a.tmps.size=n)(hb:fZ n o=true){K:Env->Prop}(h:aop P (aI P) (dV P) mt true ops o ρ (qH o H) fun u _=>K u):
  ∃z,K (upd ρ o.dst z)/\(Region.wanted o (yielded ops a.tmps)=true->∃v,rep S w1 z v/\∀w,CC w->o.quietAt P a (Rw w) w v)/\(Region.wanted o (yielded ops a.tmps)=false->rep S w1 z undef):=by
 by_cases hs:∃t x lo hi m,o.op=.slice t x lo hi m
 ·obtain⟨t,x,lo,hi,m,F⟩:=hs;have e:qH o H=H:=by unfold qH;rw[F]
  rw[e]at h;obtain⟨O,_⟩:=qF hb;unfold aop at h;obtain⟨G,h2,L⟩:=qN E hF M h;clear h;rw[F]at h2;exact IP (K:=fun u _=>K u) J Z hF M F O L (by rw[F];exact h2)
 ·have e : qH o H = bJ := by
   unfold qH;split
   ·rename_i F;exact absurd ⟨_,_,_,_,_,F⟩ hs
   ·rfl
  rw[e]at h;exact uA (K:=fun u _=>K u) J E (Z.drop fun k r hk=>by simp[bJ]at hk) hF M hb h
def D4{Q':Exit->Act->World->Prop}{wb:World}{Sb:Sg}{Hb:aD}(u:∀o∈ops,fZ n o=true)(hQ:∀ρ H a w,K ρ H->Rel n Sb wb Hb ρ H a w->Q' .normal a w):
  ∀(l:List Oper) (k:Nat) (listed:Array Bool) (ρ:Env) (H:aD) (a:Act) (w:World),(∀j,l[j]?=ops[k+j]?)->(∀o∈l,fZ n o=true)->Region.seqB .any ops l.length k listed=true ->
   qE P (aI P) (dV P) mt false ops K l ρ H->Rel n Sb wb Hb ρ H a w->gH P .any ops (Cb Sb wb) Rw Q' l.length listed a w
 | [],_,_,ρ,H,a,w,_,_,hB,h,hR=>⟨by simpa[Region.seqB]using hB,hQ ρ H a w h hR⟩
 | o::rest,k,listed,ρ,H,a,w,hl,hb,hB,h,hR=>by
  have h0:ops[k]?=some o:=by simpa using(hl 0).symm
  simp only[List.length_cons,Region.seqB,Bool.and_eq_true,decide_eq_true_eq]at hB;refine⟨by rw[hB.1];simp,fun i hi=>?_⟩;rw[hB.1]at hi;have O:i=k:=by simpa using hi
  subst O;obtain⟨S,hS,hF,hG,hN,hd,hn⟩:=hR;have he:=tS (K':=fun L w'=>L.defers=[]/\Cb Sb wb w'/\∀F,Rw w' F->gH P .any ops (Cb Sb wb) Rw Q' rest.length (listed.setIfInBounds i true) L F) (Q':=fun _ _ _=>False) u hS hF hG hN hd hn (hb o (by simp))
   (fun M H' L w' E hr=>by
    refine⟨?_,?_,fun F h2=>D4 u hQ rest (i+1) _ M H' L F (fun j=>by have:=hl (j+1);simpa[Nat.add_assoc,Nat.add_comm 1 j]using this) (fun o ho=>hb o (by simp[ho])) hB.2 E (hr.rw h2)⟩
    ·obtain⟨S',_,_,_,_,Z,_⟩:=hr;exact Z
    ·obtain⟨S',_,_,aa,_⟩:=hr;exact aa.cb) h
  unfold gOp;simp only[h0];by_cases J:Region.wanted o (yielded ops a.tmps)=true
  ·rw[if_pos J];exact mH (fun v w' E=>E.2) (yD (fun a w E=>E.1) (he.1 J))
  ·rw[if_neg J];exact(he.2 (by simpa using J)).2
def Ce{Q':Exit->Act->World->Prop}{wb:World}{Sb:Sg}(F:∀o∈ops,fZ n o=true)(hs:Region.noSelect ops=true)(E:St Sb wb bJ){g:Nat}
  (hK:∀ρ a u w,K ρ bJ->Rw wb w->FR Sb wb ρ a->a.defers=[]->a.tmps.size=n->∀k,Region.seqB .any ops g k u=true->k=ops.size-g->gH P .any ops (Cb Sb wb) Rw Q' g u a w):
  ∀(l:List Oper) (k:Nat) (u:Array Bool) (ρ:Env) (a:Act),(∀j,j<l.length->l[j]?=ops[k+j]?)->k+l.length=ops.size-g->(∀o∈l,fZ n o=true)->Region.lexHead .any ops g l.length k u=true ->
   qE P (aI P) (dV P) mt true ops K l ρ bJ->FR Sb wb ρ a->a.defers=[]->a.tmps.size=n->∀w,Rw wb w->gH P .any ops (Cb Sb wb) Rw Q' (l.length+g) u a w
 | [],k,u,ρ,a,_,hk,_,hB,h,hF,hd,hn,w,hC=>by rw[List.length_nil,Nat.zero_add];exact hK ρ a u w h hC hF hd hn k hB (by simpa using hk)
 | o::rest,k,u,ρ,a,hl,hk,hb,hB,h,hF,hd,hn,w,hC=>by
  have h0:ops[k]?=some o:=by simpa using(hl 0 (by simp)).symm
  simp only[List.length_cons,Region.lexHead,Bool.and_eq_true]at hB;obtain⟨⟨L,hf⟩,Z⟩:=hB;obtain⟨z,hz,h1,h2⟩:=uA (CC:=Cb Sb wb) (fun w J=>⟨J.st E,J.agree E⟩) F E hF hn (hb o (by simp)) h;have next:∀v,rep Sb wb z v->∀O,Rw w O->gH P .any ops (Cb Sb wb) Rw Q' (rest.length+g) (u.setIfInBounds k true) (a.put o.dst v) O:=fun v hv O h2=>Ce F hs E hK rest (k+1) _ _ _ (fun j hj=>by have:=hl (j+1) (by simp;omega);simpa[Nat.add_assoc,Nat.add_comm 1 j]using this) (by simp only[List.length_cons]at hk;omega) (fun o ho=>hb o (by simp[ho])) Z hz (FR.put hF hv) (by rw[kN];exact hd) (by rw[tE];exact hn) O (hC.trans h2)
  rw[List.length_cons,show rest.length+1+g=(rest.length+g)+1 by omega];by_cases hw:Region.wanted o (yielded ops a.tmps)=true
  ·obtain⟨v,hv,hq⟩:=h1 hw;exact iL h0 (Region.noSelect_spec hs) Rw.refl (fun _ _ _=>Rw.trans) (fun _ _ J L=>J.rw E L) _ u a w (hC.cb E) (Region.free_spec h0 hf) (by simpa using L) (.inl ⟨hw,hq⟩) (next v hv)
  ·have M:Region.wanted o (yielded ops a.tmps)=false:=by simpa using hw
   exact iL h0 (Region.noSelect_spec hs) Rw.refl (fun _ _ _=>Rw.trans) (fun _ _ J L=>J.rw E L) _ u a w (hC.cb E) (Region.free_spec h0 hf) (by simpa using L) (.inr ⟨M,rfl⟩) (next _ (h2 M))
def Js{Q':Exit->Act->World->Prop}{id m:Nat}(hm:P.follows .mixedOrders=true)(u:∀o∈ops,fZ n o=true)(hB:LB ops m=true)
  (h:qE P (aI P) (dV P) mt true ops (fun E _=>qE P (aI P) (dV P) mt false ops K (ops.toList.drop m) E H) (ops.toList.take m) ρ bJ)
  (hR:Rel n S0 w0 H0 ρ H a w) (hQ:∀ρ H a w,K ρ H->Rel n S0 w0 H0 ρ H a w->Q' .normal a w):(Code.region id ops true).wp P Q' a w:=by
 obtain⟨S,hS,hF,hG,hN,hd,hn⟩:=hR;simp only[LB,Bool.and_eq_true,decide_eq_true_eq]at hB;obtain⟨⟨hs,an⟩,ac⟩:=hB
 let w1:World:={ w with drawn:=w.drawn+1 }
 have F:St S w1 H:=hS.after (Nat.le_refl _) fun _ _=>rfl
 have ab:Grow S w S w1:=hS.grow rfl rfl rfl (Nat.le_refl _) fun _ _=>rfl
 have ak:FR S w1 ρ a:=hF.keep S.le_refl (ab.kept hS);have ag:St S w1 bJ:=F.drop fun k r hk=>by simp[bJ]at hk
 refine wp_region_any hm (rK (C:=Cb S w1) (R:=Rw) Rw.refl _ _ _ _ ?_);have L:(ops.toList.take m).length=m:=by simp;omega
 have:=Ce (Q':=Q') (g:=ops.size-m) (wb:=w1) (Sb:=S) u hs ag (K:=fun E _=>qE P (aI P) (dV P) mt false ops K (ops.toList.drop m) E H) (fun E a' J w' hk M O Z aa k ae am=>by
  have al:k=m:=by omega
  subst al;have hx:=D4 (Q':=Q') (wb:=w1) (Sb:=S) (Hb:=H) u (K:=K) (fun ρ H a w hk hr=>by
   obtain⟨S',ah,O,aj,ai,Z,aa⟩:=hr;exact hQ ρ H a w hk ⟨S',ah,O,hG.trans (ab.trans aj),hN.trans ai hG.le.N,Z,aa⟩) (ops.toList.drop k) k J E H a' w' (fun j=>by simp[List.getElem?_drop]) (fun o ho=>u o (Array.mem_toList_iff.1 (List.mem_of_mem_drop ho)))
   (by simpa using ae) hk ?_
  ·simpa using hx
  ·have hg:=F.grow M.1 M.2.1 M.2.2.1 M.2.2.2.1 M.2.2.2.2;exact⟨S,F.after M.2.2.2.1 M.2.2.2.2,O.keep S.le_refl (hg.kept F),hg,dK.refl _ _,Z,aa⟩) (ops.toList.take m) 0 (Array.replicate ops.size false) ρ a (fun j hj=>by
    have af:j<m:=by rw[L]at hj;exact hj
    simp[af]) (by rw[L];omega) (fun o ho=>u o (Array.mem_toList_iff.1 (List.mem_of_mem_take ho))) (by rw[L];exact ac) h ak hd hn w1 (Rw.refl w1)
 rw[L,show m+(ops.size-m)=ops.size by omega]at this;exact this
def sM{C u:World->Prop}{R:World->World->Prop}{Q':Exit->Act->World->Prop}(h:∀w,u w->C w):∀(f:Nat) (listed:Array Bool) (a:Act) (w:World),gH P .any ops u R Q' f listed a w->gH P .any ops C R Q' f listed a w
 | 0,_,_,_,hw=>hw
 | f+1,_,_,_,hw=>⟨hw.1,fun i hi=>Bd (fun L w' E=>⟨h w' E.1,fun F J=>sM h f _ _ _ (E.2 F J)⟩) (hw.2 i hi)⟩
def Cb.mono{S S':Sg}{w w' E:World}{H:aD}(J:St S w H)(u:Grow S w S' w')(h:Cb S' w' E):Cb S w E:=
 ⟨h.1.trans u.os,h.2.1.trans u.tape,h.2.2.1.trans u.output,Nat.le_trans u.size h.2.2.2.1,fun k F=>(h.2.2.2.2 k (u.fz k F)).trans (u.same k F)⟩
def sP{Q':Exit->Act->World->Prop}(u:∀o∈ops,fZ n o=true)(E:Region.noSelect ops=true)(hQ:∀ρ H a w,K ρ H->Rel n S0 w0 H0 ρ H a w->Q' .normal a w):
  ∀(f:List (Nat×Bool)) (listed:Array Bool) (ρ:Env) (H:aD) (a:Act) (w:World) (S:Sg),kY ops f listed=true ->
   sL P (aI P) (dV P) mt ops K f ρ H->St S w H->FR S w ρ a->Grow S0 w0 S w->dK S0.N H0 H->a.defers=[]->a.tmps.size=n->∀J,Rw w J->gH P .any ops (Cb S w) Rw Q' f.length listed a J
 | [],listed,ρ,H,a,w,S,hB,h,hS,hF,hG,hN,hd,hn,J,h2=>by refine⟨by simpa[kY]using hB,hQ ρ H a J h (Rel.rw ⟨S,hS,hF,hG,hN,hd,hn⟩ h2)⟩
 | (k,true)::f,listed,ρ,H,a,w,S,hB,h,hS,hF,hG,hN,hd,hn,J,h2=>by
  simp only[kY,Bool.and_eq_true]at hB;obtain⟨⟨M,hf⟩,af⟩:=hB;unfold sL at h;split at h
  ·rename_i o h0;rw[if_pos rfl]at h;have aa:=u o (Array.mem_of_getElem? h0);obtain⟨z,hz,h1,h3⟩:=KS (CC:=Cb S w) (K:=fun O=>sL P (aI P) (dV P) mt ops K f O H) (fun w hc=>⟨hc.st hS,hc.agree hS⟩) u hS hF hn aa h;have next:∀v,rep S w z v->∀F,Rw w F->gH P .any ops (Cb S w) Rw Q' f.length (listed.setIfInBounds k true) (a.put o.dst v) F:=fun v hv F h3=>sP u E hQ f _ _ H _ w S af hz hS (FR.put hF hv) hG hN (by rw[kN];exact hd) (by rw[tE];exact hn) F h3
   rw[List.length_cons];by_cases L:Region.wanted o (yielded ops a.tmps)=true
   ·obtain⟨v,hv,hq⟩:=h1 L;exact iL h0 (Region.noSelect_spec E) Rw.refl (fun _ _ _=>Rw.trans) (fun _ _ hc M=>hc.rw hS M) _ listed a J (h2.cb hS) (Region.free_spec h0 hf) (by simpa using M) (.inl ⟨L,hq⟩) (fun F h3=>next v hv F (h2.trans h3))
   ·have ae:Region.wanted o (yielded ops a.tmps)=false:=by simpa using L
    exact iL h0 (Region.noSelect_spec E) Rw.refl (fun _ _ _=>Rw.trans) (fun _ _ hc M=>hc.rw hS M) _ listed a J (h2.cb hS) (Region.free_spec h0 hf) (by simpa using M) (.inr ⟨ae,rfl⟩) (fun F ao=>next _ (h3 ae) F (h2.trans ao))
  ·exact h.elim
 | (k,false)::f,listed,ρ,H,a,w,S,hB,h,hS,hF,hG,hN,hd,hn,J,h2=>by
  simp only[kY,Bool.and_eq_true,decide_eq_true_eq]at hB;unfold sL at h;split at h
  ·rename_i o h0;rw[if_neg (by simp)]at h;have aa:=u o (Array.mem_of_getElem? h0);rw[List.length_cons];refine⟨by rw[hB.1];simp,fun i hi=>?_⟩;rw[hB.1]at hi;have ai:i=k:=by simpa using hi
   subst ai;have ab:=hS.grow h2.1 h2.2.1 h2.2.2.1 h2.2.2.2.1 h2.2.2.2.2;have ah:St S J H:=hS.after h2.2.2.2.1 h2.2.2.2.2;have an:FR S J ρ a:=hF.keep S.le_refl (ab.kept hS);have he:=tS (S0:=S) (w0:=J) (H0:=H) (K:=sL P (aI P) (dV P) mt ops K f) (K':=fun a' w'=>a'.defers=[]/\Cb S w w'/\∀F,Rw w' F->gH P .any ops (Cb S w) Rw Q' f.length (listed.setIfInBounds i true) a' F) (Q':=fun _ _ _=>False) u ah an (Grow.refl S J) (dK.refl _ _) hd hn aa
    (fun O H' a' w' hk M=>by obtain⟨S',ag,ak,al,aj,ac,am⟩:=M;have Z:Grow S w S' w':=ab.trans al;refine⟨ac,Z.cb,fun F h3=>?_⟩;refine sM (fun x hx=>Cb.mono hS Z hx) _ _ _ _ (sP u E hQ f _ O H' a' w' S' hB.2 hk ag ak (hG.trans Z) (hN.trans aj hG.le.N) ac am F h3)) h
   unfold gOp;simp only[h0];by_cases L:Region.wanted o (yielded ops a.tmps)=true
   ·rw[if_pos L];exact mH (fun v w' hk=>hk.2) (yD (fun a w hk=>hk.1) (he.1 L))
   ·rw[if_neg L];exact(he.2 (by simpa using L)).2
  ·exact h.elim
def N2{Q':Exit->Act->World->Prop}{id:Nat}{f:List (Nat×Bool)}(hm:P.follows .mixedOrders=true)(F:∀o∈ops,fZ n o=true)(hB:J9 ops f=true)
  (h:sL P (aI P) (dV P) mt ops K f ρ H)
  (hR:Rel n S0 w0 H0 ρ H a w) (hQ:∀ρ H a w,K ρ H->Rel n S0 w0 H0 ρ H a w->Q' .normal a w):(Code.region id ops true).wp P Q' a w:=by
 obtain⟨S,J,hF,hG,hN,hd,Z⟩:=hR;simp only[J9,Bool.and_eq_true,decide_eq_true_eq]at hB;obtain⟨⟨hs,M⟩,E⟩:=hB
 let w1:World:={ w with drawn:=w.drawn+1 }
 have O:St S w1 H:=J.after (Nat.le_refl _) fun _ _=>rfl
 have u:Grow S w S w1:=J.grow rfl rfl rfl (Nat.le_refl _) fun _ _=>rfl
 have L:FR S w1 ρ a:=hF.keep S.le_refl (u.kept J);refine wp_region_any hm (rK (C:=Cb S w1) (R:=Rw) Rw.refl _ _ _ _ ?_);have:=sP (Q':=Q') F hs hQ f (Array.replicate ops.size false) ρ H a w1 S E h O L (hG.trans u) hN hd Z w1 (Rw.refl w1);rw[M]at this;exact this
structure Pin(S:Sg)(w:World)(Hp:aD):Prop where
 rows:oU S w Hp
 fz:∀k r,Hp k=some r->∀g,blk (S.loc k)=some g->S.fz g/\¬S.ro g
 disj:∀k k' r r',Hp k=some r->Hp k'=some r'->k≠k'->∀g,blk (S.loc k)=some g->blk (S.loc k')≠some g
def TX(S:Sg)(Hp:aD)(g:Nat):Prop:=∃k r,Hp k=some r/\blk (S.loc k)=some g
def Sg.unpin(S:Sg)(Hp:aD):Sg:={ S with fz:=fun g=>S.fz g/\¬TX S Hp g }
def Sg.pin(S:Sg)(Hp:aD):Sg:={ S with fz:=fun g=>S.fz g\/TX S Hp g }
def Sg.le_unpin(S:Sg)(Hp:aD):S.le (S.unpin Hp):=⟨fun _ h=>h,Nat.le_refl _,fun _ _=>rfl,fun _ _=>rfl⟩
def Sg.unpin_le(S:Sg)(Hp:aD):(S.unpin Hp).le S:=⟨fun _ h=>h,Nat.le_refl _,fun _ _=>rfl,fun _ _=>rfl⟩
def Sg.le_pin(S:Sg)(Hp:aD):S.le (S.pin Hp):=⟨fun _ h=>h,Nat.le_refl _,fun _ _=>rfl,fun _ _=>rfl⟩
def Pin.merge{Hp Z:aD}(h:Pin S w Hp)(J:St S w H)(O:∀k r,Z k=some r->H k=some r\/Hp k=some r):St (S.unpin Hp) w Z:=by
 have hr:∀k r,Z k=some r->RowOK S w k r:=fun k r u=>by
  rcases O k r u with h1|h1
  ·exact J.rows k r h1
  ·exact h.rows k r h1
 refine⟨fun k u=>⟨J.ro_fz k u,fun⟨i,r,hi,F⟩=>(h.fz i r hi k F).2 u⟩,fun k u=>J.fz_lt k u.1,fun k r u=>(hr k r u).keep (S.le_unpin Hp) (eG.refl S w) (fun _ _=>rfl),fun k r u g F hf=>?_,fun k k' r r' u aa M g F E=>?_,J.tabs⟩
 ·rcases O k r u with h1|h1
  ·exact J.free k r h1 g F hf.1
  ·exact hf.2 ⟨k,r,h1,F⟩
 ·rcases O k r u with h1|h1 <;> rcases O k' r' aa with L|L
  ·exact J.disj k k' r r' h1 L M g F E
  ·exact J.free k r h1 g F (h.fz k' r' L g E).1
  ·exact J.free k' r' L g E (h.fz k r h1 g F).1
  ·exact h.disj k k' r r' h1 L M g F E
def Pin.keep{Hp:aD}{S':Sg}{w':World}(h:Pin S w Hp)(O:St S w H)(E:Grow S w S' w'):Pin S' w' Hp:=by
 refine⟨fun k r u=>(h.rows k r u).keep E.le (E.kept O) (fun g F=>E.same g (h.fz k r u g F).1),fun k r u g F=>?_,fun k k' r r' u J M g F=>?_⟩
 ·rw[E.le.loc k (h.rows k r u).lt]at F;have h1:=h.fz k r u g F;refine⟨E.fz g h1.1,fun Z=>?_⟩;rcases E.newro g Z with L|L
  ·exact h1.2 L
  ·exact L h1.1
 ·rw[E.le.loc k (h.rows k r u).lt]at F;rw[E.le.loc k' (h.rows k' r' J).lt];exact h.disj k k' r r' u J M g F
def Cb.pin{wb w:World}{H Hp:aD}(E:St S wb H)(F:Pin S wb Hp)(h:Cb S wb w):St (S.unpin Hp) w Hp/\Agree (S.unpin Hp) Hp wb w:=by have L:Grow S wb S w:=⟨S.le_refl,fun _ h=>h,h.1,h.2.1,h.2.2.1,h.2.2.2.1,h.2.2.2.2,fun _ h=>.inl h⟩;exact⟨(F.keep E L).merge (h.st E) (fun k r u=>.inr u),⟨fun k u=>h.2.2.2.2 k (E.ro_fz k u),fun k r u g J=>h.2.2.2.2 g (F.fz k r u g J).1⟩⟩
def mB{Q':Exit->Act->World->Prop}{Hp:aD}(L:∀o∈ops,fZ n o=true){i m:Nat}{o:Oper}{u:Array Bool}{K1:Env->aD->Prop}(h0:ops[i]?=some o)(h:aop P (aI P) (dV P) mt false ops o ρ H K1)
  (hS:St S w H) (hP:Pin S w Hp) (hF:FR S w ρ a) (hd:a.defers=[]) (hn:a.tmps.size=n) {M:World} (h2:Rw w M)
  (next:∀J H' E w' S',K1 J H'->St S' w' H'->Pin S' w' Hp->FR S' w' J E->Grow S w S' w'->dK S.N H H'->E.defers=[]->E.tmps.size=n->∀F,Rw w' F->gH P .any ops (Cb S' w') Rw Q' m (u.setIfInBounds i true) E F):
  gOp P ops i (fun E w'=>Cb S w w'/\∀F,Rw w' F->gH P .any ops (Cb S w) Rw Q' m (u.setIfInBounds i true) E F) a M:=by
 have ag:=L o (Array.mem_of_getElem? h0);have Z:=hS.grow h2.1 h2.2.1 h2.2.2.1 h2.2.2.2.1 h2.2.2.2.2;have aa:St S M H:=hS.after h2.2.2.2.1 h2.2.2.2.2;have af:Pin S M Hp:=hP.keep hS Z;have ak:FR S M ρ a:=hF.keep S.le_refl (Z.kept hS);have he:=tS (S0:=S) (w0:=M) (H0:=H) (K:=K1) (K':=fun E w'=>E.defers=[]/\Cb S w w'/\∀F,Rw w' F->gH P .any ops (Cb S w) Rw Q' m (u.setIfInBounds i true) E F) (Q':=fun _ _ _=>False) L aa ak (Grow.refl S M) (dK.refl _ _) hd hn ag
  (fun J H' E w' hk hr=>by obtain⟨S',ae,ai,ac,ah,ab,aj⟩:=hr;have O:Grow S w S' w':=Z.trans ac;refine⟨ab,O.cb,fun F h3=>?_⟩;exact sM (fun x hx=>Cb.mono hS O hx) _ _ _ _ (next J H' E w' S' hk ae (af.keep aa ac) ai O ah ab aj F h3)) h
 unfold gOp;simp only[h0];by_cases hw:Region.wanted o (yielded ops a.tmps)=true
 ·rw[if_pos hw];exact mH (fun v w' hk=>hk.2) (yD (fun a w hk=>hk.1) (he.1 hw))
 ·rw[if_neg hw];exact(he.2 (by simpa using hw)).2
def kL{q:Bool}{k:Nat}{u:Env->aD->Prop}(h:pV P (aI P) (dV P) mt q ops k ρ H u):∃o,ops[k]?=some o/\aop P (aI P) (dV P) mt q ops o ρ H u:=by
 unfold pV at h;split at h
 ·rename_i o h0;exact⟨o,h0,h⟩
 ·exact h.elim
def fI{Q':Exit->Act->World->Prop}{Hp:aD}(u:∀o∈ops,fZ n o=true)(E:Region.noSelect ops=true)
  (hQ:∀ρ H a w S,K ρ H->St S w H->Pin S w Hp->FR S w ρ a->Grow S0 w0 S w->dK S0.N H0 H->a.defers=[]->a.tmps.size=n->Q' .normal a w):
  ∀(t:Mx) (m:Nat) (listed:Array Bool) (ρ:Env) (H:aD) (a:Act) (w:World) (S:Sg),dD ops t m listed=true ->
   fR P (aI P) (dV P) mt ops K Hp t ρ H->St S w H->Pin S w Hp->FR S w ρ a->Grow S0 w0 S w->dK S0.N H0 H->a.defers=[]->a.tmps.size=n->∀w2,Rw w w2->gH P .any ops (Cb S w) Rw Q' m listed a w2
 | .nil,m,listed,ρ,H,a,w,S,hB,h,hS,hP,hF,hG,hN,hd,hn,w2,h2=>by
  cases m with
  | succ m=>simp[dD]at hB
  | zero=>have hg:=hS.grow h2.1 h2.2.1 h2.2.2.1 h2.2.2.2.1 h2.2.2.2.2;exact⟨by simpa[dD]using hB,hQ ρ H a w2 S h (hS.after h2.2.2.2.1 h2.2.2.2.2) (hP.keep hS hg) (hF.keep S.le_refl (hg.kept hS)) (hG.trans hg) hN hd hn⟩
 | .q k t,m,listed,ρ,H,a,w,S,hB,h,hS,hP,hF,hG,hN,hd,hn,w2,h2=>by
  cases m with
  | zero=>simp[dD]at hB
  | succ m=>
   simp only[dD,Bool.and_eq_true]at hB;obtain⟨⟨hr,hf⟩,ah⟩:=hB;obtain⟨o,h0,h⟩:=kL h;have ai:=u o (Array.mem_of_getElem? h0);obtain⟨z,hz,h1,h3⟩:=uA (S:=S.unpin Hp) (CC:=Cb S w) (K:=fun F _=>fR P (aI P) (dV P) mt ops K Hp t F H) (fun w hc=>hc.pin hS hP) u (hP.merge hS fun k r hk=>.inr hk) (hF.keep (S.le_unpin Hp) (eG.refl S w)) hn ai h;have next:∀v,rep (S.unpin Hp) w z v->∀w3,Rw w w3->gH P .any ops (Cb S w) Rw Q' m (listed.setIfInBounds k true) (a.put o.dst v) w3:=fun v hv w3 h3=>fI u E hQ t m _ _ H _ w S ah hz hS hP (FR.put hF (gY (S.unpin_le Hp) (eG.refl (S.unpin Hp) w) _ _ hv)) hG hN (by rw[kN];exact hd) (by rw[tE];exact hn) w3 h3
   by_cases hw:Region.wanted o (yielded ops a.tmps)=true
   ·obtain⟨v,hv,hq⟩:=h1 hw;exact iL h0 (Region.noSelect_spec E) Rw.refl (fun _ _ _=>Rw.trans) (fun _ _ hc hr=>hc.rw hS hr) _ listed a w2 (h2.cb hS) (Region.free_spec h0 hf) (by simpa using hr) (.inl ⟨hw,hq⟩) (fun w3 h3=>next v hv w3 (h2.trans h3))
   ·have af:Region.wanted o (yielded ops a.tmps)=false:=by simpa using hw
    exact iL h0 (Region.noSelect_spec E) Rw.refl (fun _ _ _=>Rw.trans) (fun _ _ hc hr=>hc.rw hS hr) _ listed a w2 (h2.cb hS) (Region.free_spec h0 hf) (by simpa using hr) (.inr ⟨af,rfl⟩) (fun w3 ak=>next _ (h3 af) w3 (h2.trans ak))
 | .a1 k t,m,listed,ρ,H,a,w,S,hB,h,hS,hP,hF,hG,hN,hd,hn,w2,h2=>by
  cases m with
  | zero=>simp[dD]at hB
  | succ m=>simp only[dD,Bool.and_eq_true,decide_eq_true_eq]at hB;obtain⟨o,h0,g⟩:=kL h;refine⟨by rw[hB.1];simp,fun i hi=>?_⟩;rw[hB.1]at hi;simp only[List.mem_cons,List.not_mem_nil,or_false]at hi;subst hi;exact mB u h0 g hS hP hF hd hn h2 fun F H' a' w' S' hk J Z M aa L O ab w3 h3=>fI u E hQ t m _ F H' a' w' S' hB.2 hk J Z M (hG.trans aa) (hN.trans L hG.le.N) O ab w3 h3
 | .a2 k t k' t',m,listed,ρ,H,a,w,S,hB,h,hS,hP,hF,hG,hN,hd,hn,w2,h2=>by
  cases m with
  | zero=>simp[dD]at hB
  | succ m=>
   simp only[dD,Bool.and_eq_true,decide_eq_true_eq]at hB;obtain⟨h,h'⟩:=h;obtain⟨o,h0,g⟩:=kL h;obtain⟨o',ac,g'⟩:=kL h';refine⟨by rw[hB.1.1];simp,fun i hi=>?_⟩;rw[hB.1.1]at hi;simp only[List.mem_cons,List.not_mem_nil,or_false]at hi;rcases hi with rfl|rfl
   ·exact mB u h0 g hS hP hF hd hn h2 fun F H' a' w' S' hk J Z M aa L O ab w3 h3=>fI u E hQ t m _ F H' a' w' S' hB.1.2 hk J Z M (hG.trans aa) (hN.trans L hG.le.N) O ab w3 h3
   ·exact mB u ac g' hS hP hF hd hn h2 fun F H' a' w' S' hk J Z M aa L O ab w3 h3=>fI u E hQ t' m _ F H' a' w' S' hB.2 hk J Z M (hG.trans aa) (hN.trans L hG.le.N) O ab w3 h3
 | .a3 k t k' t' k'' t'',m,listed,ρ,H,a,w,S,hB,h,hS,hP,hF,hG,hN,hd,hn,w2,h2=>by
  cases m with
  | zero=>simp[dD]at hB
  | succ m=>
   simp only[dD,Bool.and_eq_true,decide_eq_true_eq]at hB;obtain⟨h,h',aj⟩:=h;obtain⟨o,h0,g⟩:=kL h;obtain⟨o',ac,g'⟩:=kL h';obtain⟨al,ae,ag⟩:=kL aj;refine⟨by rw[hB.1.1.1];simp,fun i hi=>?_⟩;rw[hB.1.1.1]at hi;simp only[List.mem_cons,List.not_mem_nil,or_false]at hi;rcases hi with rfl|rfl|rfl
   ·exact mB u h0 g hS hP hF hd hn h2 fun F H' a' w' S' hk J Z M aa L O ab w3 h3=>fI u E hQ t m _ F H' a' w' S' hB.1.1.2 hk J Z M (hG.trans aa) (hN.trans L hG.le.N) O ab w3 h3
   ·exact mB u ac g' hS hP hF hd hn h2 fun F H' a' w' S' hk J Z M aa L O ab w3 h3=>fI u E hQ t' m _ F H' a' w' S' hB.1.2 hk J Z M (hG.trans aa) (hN.trans L hG.le.N) O ab w3 h3
   ·exact mB u ae ag hS hP hF hd hn h2 fun F H' a' w' S' hk J Z M aa L O ab w3 h3=>fI u E hQ t'' m _ F H' a' w' S' hB.2 hk J Z M (hG.trans aa) (hN.trans L hG.le.N) O ab w3 h3
def J4{Q':Exit->Act->World->Prop}{id:Nat}{l:List Nat}{t:Mx}(hm:P.follows .mixedOrders=true)(am:∀o∈ops,fZ n o=true)(hl:∀k,k∈l->(H k).isSome=true)(hB:AH ops t=true)
  (h:∀Hp O:aD,(∀k,k∈l->Hp k=H k)->(∀k,k∉l->O k=H k)->(∀k,k∉l->Hp k=none)->(∀k,k∈l->O k=none)->fR P (aI P) (dV P) mt ops (kQ l H K) Hp t ρ O)
  (hR:Rel n S0 w0 H0 ρ H a w) (hQ:∀ρ H a w,K ρ H->Rel n S0 w0 H0 ρ H a w->Q' .normal a w):(Code.region id ops true).wp P Q' a w:=by
 obtain⟨S,hS,hF,hG,hN,hd,hn⟩:=hR;simp only[AH,Bool.and_eq_true]at hB;obtain⟨hs,ao⟩:=hB
 let Hp:aD:=fun k=>if k∈l then H k else none
 let O:aD:=fun k=>if k∈l then none else H k
 have ae:∀k,k∈l->Hp k=H k:=fun k u=>if_pos u
 have ak:∀k,k∉l->Hp k=none:=fun k u=>if_neg u
 have ag:∀k,k∉l->O k=H k:=fun k u=>if_neg u
 have ah:∀k,k∈l->O k=none:=fun k u=>if_pos u
 have J:∀k r,Hp k=some r->H k=some r/\k∈l:=fun k r u=>by
  by_cases h:k∈l
  ·exact⟨by rw[<-ae k h];exact u,h⟩
  ·rw[ak k h]at u;cases u
 have M:∀k r,O k=some r->H k=some r/\k∉l:=fun k r u=>by
  by_cases h:k∈l
  ·rw[ah k h]at u;cases u
  ·exact⟨by rw[<-ag k h];exact u,h⟩
 let w1:World:={ w with drawn:=w.drawn+1 }
 have E:St S w1 H:=hS.after (Nat.le_refl _) fun _ _=>rfl
 have al:Grow S w S w1:=hS.grow rfl rfl rfl (Nat.le_refl _) fun _ _=>rfl
 have ax:FR S w1 ρ a:=hF.keep S.le_refl (al.kept hS);have ar:St (S.pin Hp) w1 O:=by
  refine⟨fun k u=>.inl (E.ro_fz k u),fun k u=>?_,fun k r u=>(E.rows k r (M k r u).1).keep (S.le_pin Hp) (eG.refl S w1) (fun _ _=>rfl),fun k r u g Z hf=>?_,fun k k' r r' u ai aa g Z ab=>E.disj k k' r r' (M k r u).1 (M k' r' ai).1 aa g Z ab,E.tabs⟩
  ·rcases u with h1|⟨i,r,hi,Z⟩
   ·exact E.fz_lt k h1
   ·exact(E.rows i r (J i r hi).1).block_lt Z
  ·rcases hf with h1|⟨i,r',hi,ab⟩
   ·exact E.free k r (M k r u).1 g Z h1
   ·exact E.disj k i r r' (M k r u).1 (J i r' hi).1 (fun e=>(M k r u).2 (e▸(J i r' hi).2)) g Z ab
 have au:Pin (S.pin Hp) w1 Hp:=by refine⟨fun k r u=>(E.rows k r (J k r u).1).keep (S.le_pin Hp) (eG.refl S w1) (fun _ _=>rfl),fun k r u g Z=>⟨.inr ⟨k,r,u,Z⟩,fun h1=>E.free k r (J k r u).1 g Z (E.ro_fz g h1)⟩,fun k k' r r' u ai aa g Z=>E.disj k k' r r' (J k r u).1 (J k' r' ai).1 aa g Z⟩
 refine wp_region_any hm (rK (C:=Cb (S.pin Hp) w1) (R:=Rw) Rw.refl _ _ _ _ ?_);have:=fI (Q':=Q') (Hp:=Hp) (K:=kQ l H K) (S0:=S.pin Hp) (w0:=w1) (H0:=O) am hs (fun ap H' a' w' S' u aq az av F an aw a0=>by
  have ac:∀k,k∈l->H' k=none:=fun k u=>by obtain⟨r,hr⟩:=Option.isSome_iff_exists.1 (hl k u);exact an k (hS.rows k r hr).lt (ah k u)
  let Hm:aD:=fun k=>if k∈l then H k else H' k
  have af:∀k,k∈l->Hm k=H k:=fun k u=>if_pos u
  have aj:∀k,k∉l->Hm k=H' k:=fun k u=>if_neg u
  refine hQ ap Hm a' w' (u ac Hm af aj) ⟨S'.unpin Hp,az.merge aq (fun k r u=>?_),av.keep (S'.le_unpin Hp) (eG.refl S' w'),?_,?_,aw,a0⟩
  ·by_cases L:k∈l
   ·right;rw[ae k L,<-af k L];exact u
   ·left;rw[<-aj k L];exact u
  ·refine hG.trans (al.trans ⟨⟨F.le.ro, F.le.N, F.le.loc, F.le.sz⟩, fun k u => ⟨F.fz k (.inl u), fun ⟨i, r, hi, hb⟩ => by
    have ay:=E.rows i r (J i r hi).1;have e:S'.loc i=S.loc i:=F.le.loc i ay.lt;rw[show(S'.loc i)=S.loc i from e]at hb;exact E.free i r (J i r hi).1 k hb u⟩,F.os,F.tape,F.output,F.size,fun k u=>F.same k (.inl u),fun k u=>by
    rcases F.newro k u with h2|h2
    ·exact .inl h2
    ·exact .inr fun h3=>h2 (.inl h3)⟩)
  ·intro k u h0;have hH:=hN k u h0;by_cases L:k∈l
   ·rw[af k L];exact hH
   ·rw[aj k L];exact an k (Nat.lt_of_lt_of_le u hG.le.N) (by rw[ag k L];exact hH)) t ops.size (Array.replicate ops.size false) ρ O a w1 (S.pin Hp) ao (h Hp O ae ag ak ah) ar au (ax.keep (S.le_pin Hp) (eG.refl S w1)) (Grow.refl _ _) (dK.refl _ _) hd hn w1 (Rw.refl w1)
 exact this
end
end Go.Aw
end
section
namespace Go.Aw
open Go.RowKit
section
variable{P:Program}{n:Nat}{S0:Sg}{w0:World}{H0:aD}{mt:Nat->Bool}{ops:Array Oper}{K:Env->aD->Prop}{ρ:Env}{H:aD}{a:Act}{w:World}{S:Sg}
def A3(u:∀o∈ops,fZ n o=true){Q':Exit->Act->World->Prop}(L:∀ρ H a w,K ρ H->Rel n S0 w0 H0 ρ H a w->Q' .normal a w):
  ∀(l:List Oper) (ρ:Env) (H:aD) (a:Act) (w:World),(∀o∈l,fZ n o=true)->qE P (aI P) (dV P) mt false ops K l ρ H->Rel n S0 w0 H0 ρ H a w->wpList P ops Q' l a w
 | [],ρ,H,a,w,_,h,hR=>L ρ H a w h hR
 | o::rest,ρ,H,a,w,hl,h,hR=>by
  obtain⟨S,hS,hF,hG,hN,O,M⟩:=hR;have J:=tS (K':=wpList P ops Q' rest) (Q':=Q') u hS hF hG hN O M (hl o (by simp))
   (fun F H' a' w' Z hr=>A3 u L rest F H' a' w' (fun o ho=>hl o (by simp[ho])) Z hr) h
  unfold wpList;by_cases E:Region.wanted o (yielded ops a.tmps)=true
  ·rw[if_pos E];exact .inl (J.1 E)
  ·rw[if_neg E];exact J.2 (by simpa using E)
def Cls(S:Sg)(H:aD)(w1 w:World):Prop:=
 w.os=w1.os/\w.tape=w1.tape/\w.output=w1.output/\w1.heap.size<=w.heap.size/\∀k,k<w1.heap.size->w.heap[k]?=w1.heap[k]?
def Cls.st{w1:World}(u:St S w1 H)(h:Cls S H w1 w):St S w H:=u.after h.2.2.2.1 h.2.2.2.2
def Cls.grow{w1:World}(u:St S w1 H)(h:Cls S H w1 w):Grow S w1 S w:=u.grow h.1 h.2.1 h.2.2.1 h.2.2.2.1 h.2.2.2.2
def Cls.agree{w1:World}(u:St S w1 H)(h:Cls S H w1 w):Agree S H w1 w:=
 ⟨(h.grow u).kept u,fun k r F g E=>h.2.2.2.2 g ((u.rows k r F).block_lt E)⟩
def Ld{P:Program}{o:Oper}{a:Act}{w w1:World}{v:Value}(E:Cls S H w1 w)(h:o.quietAt P a (Rw w) w v):o.quietAt P a (Cls S H w1) w v:=by
 unfold Oper.quietAt at *;generalize (execOp a.eval o).run P w=r at *;cases r with
 | ok m w'=>
  cases m <;> simp only[Oper.quietUpon]at h |-
  case value u=>exact h
  case skip=>exact h
  case enter f args=>exact⟨h.1,h.2.mono fun e w2 ⟨J,M,Z,L,p4,O⟩=>⟨J,M.trans E.1,Z.trans E.2.1,L.trans E.2.2.1,Nat.le_trans E.2.2.2.1 p4,fun k F=>(O k (Nat.lt_of_lt_of_le F E.2.2.2.1)).trans (E.2.2.2.2 k F)⟩⟩
 | halt x w'=>simp only[Oper.quietUpon]at h
def Bb{w1:World}(E:∀o∈ops,fZ n o=true)(L:St S w1 H):∀(l:List Oper) (ρ:Env) (a:Act),(∀o∈l,fZ n o=true)->qE P (aI P) (dV P) mt true ops K l ρ H->FR S w1 ρ a->a.defers=[]->a.tmps.size=n ->
  wpQuiet P ops (Cls S H w1) (fun F=>∃u,K u H/\FR S w1 u F/\F.defers=[]/\F.tmps.size=n) l a
 | [],ρ,a,_,h,hF,hd,hn=>⟨ρ,h,hF,hd,hn⟩
 | o::rest,ρ,a,hl,h,hF,hd,hn=>by
  obtain⟨z,hz,h1,h2⟩:=uA (CC:=Cls S H w1) (fun w J=>⟨J.st L,J.agree L⟩) E L hF hn (hl o (by simp)) h;have next:∀v,rep S w1 z v->wpQuiet P ops (Cls S H w1) (fun F=>∃u,K u H/\FR S w1 u F/\F.defers=[]/\F.tmps.size=n) rest (a.put o.dst v):=fun v O=>Bb E L rest _ _ (fun o ho=>hl o (by simp[ho])) hz (FR.put hF O) (by rw[kN];exact hd) (by rw[tE];exact hn)
  unfold wpQuiet;by_cases M:Region.wanted o (yielded ops a.tmps)=true
  ·rw[if_pos M];obtain⟨v,O,Z⟩:=h1 M;exact⟨v,fun w J=>Ld J (Z w J),next v O⟩
  ·rw[if_neg M];exact next _ (h2 (by simpa using M))
end
def qY{P:Program}{ops:Array Oper}{C:World->Prop}{Q Q':Act->Prop}(u:∀a,Q a->Q' a):∀(l:List Oper) (a:Act),wpQuiet P ops C Q l a->wpQuiet P ops C Q' l a
 | [],a,h=>u a h
 | o::rest,a,h=>by
  unfold wpQuiet at h |-;split
  ·rename_i E;rw[if_pos E]at h;exact Oper.quiet_mono (fun F J=>qY u rest F J) h
  ·rename_i E;rw[if_neg E]at h;exact qY u rest _ h
def sV(n:Nat):Code->Bool
 | .region _ ops _=>ops.all (fZ n)
 | .seq a b=>sV n a&&sV n b
 | .cond c a b=>opB n c&&(sV n a&&sV n b)
 | .block _ c=>sV n c
 | .loop c=>sV n c
 | .scope c=>sV n c
 | _=>true
def Np(n:Nat)(S0:Sg)(w0:World)(H0:aD)(Q:Ex->Env->aD->Prop):Exit->Act->World->Prop
 | .normal,a,w=>∃ρ H,Q .normal ρ H/\Rel n S0 w0 H0 ρ H a w
 | .exit id,a,w=>∃ρ H,Q (.exit id) ρ H/\Rel n S0 w0 H0 ρ H a w
 | .ret,a,w=>∃ρ H,Q .ret ρ H/\Rel n S0 w0 H0 ρ H a w
 | _,_,_=>False
def jC{P:Program}{n:Nat}{S0:Sg}{w0:World}{H0:aD}{mt:Nat->Bool}(O:P.follows .mixedOrders=true):∀(c:Code) (Q:Ex->Env->aD->Prop) (ρ:Env) (H:aD) (a:Act) (w:World),sV n c=true ->
  awp P (aI P) (dV P) mt c Q ρ H->Rel n S0 w0 H0 ρ H a w->c.wp P (Np n S0 w0 H0 Q) a w
 | .skip,Q,ρ,H,a,w,_,h,hR=>wp_skip ⟨ρ,H,h,hR⟩
 | .region id ops false,Q,ρ,H,a,w,hb,h,hR=>by
  rw[AN]at h;have u:∀o∈ops,fZ n o=true:=fun o ho=>Array.all_eq_true_iff_forall_mem.1 hb o ho
  exact wp_region_list (A3 u (fun ρ H a w F L=>⟨ρ,H,F,L⟩) ops.toList ρ H a w (fun o ho=>u o (Array.mem_toList_iff.1 ho)) h hR)
 | .region id ops true,Q,ρ,H,a,w,hb,h,hR=>by
  rw[HD]at h;have u:∀o∈ops,fZ n o=true:=fun o ho=>Array.all_eq_true_iff_forall_mem.1 hb o ho
  rcases h with⟨_,ab,h⟩|⟨hB,h⟩|⟨f,hB,h⟩|⟨l,t,hl,hB,h⟩
  ·obtain⟨S,hS,hF,hG,hN,hd,hn⟩:=hR
   let w1:World:={ w with drawn:=w.drawn+1 }
   have M:St S w1 H:=hS.after (Nat.le_refl _) fun _ _=>rfl
   have aa:Grow S w S w1:=hS.grow rfl rfl rfl (Nat.le_refl _) fun _ _=>rfl
   have ai:FR S w1 ρ a:=hF.keep S.le_refl (aa.kept hS);refine wp_region_quiet (C:=Cls S H w1) O ab ⟨rfl,rfl,rfl,Nat.le_refl _,fun _ _=>rfl⟩ ?_;have:=Bb u M ops.toList ρ a (fun o ho=>u o (Array.mem_toList_iff.1 ho)) h ai hd hn;refine qY (fun a' ⟨E,F,ag,ah,aj⟩ w' hc=>?_) ops.toList a this;exact⟨E,H,F,S,hc.st M,ag.keep S.le_refl ((hc.grow M).kept M),hG.trans (aa.trans (hc.grow M)),hN,ah,aj⟩
  ·exact Js O u hB h hR fun ρ H a w F L=>⟨ρ,H,F,L⟩
  ·exact N2 O u hB h hR fun ρ H a w F L=>⟨ρ,H,F,L⟩
  ·exact J4 O u hl hB h hR fun ρ H a w F L=>⟨ρ,H,F,L⟩
 | .seq c d,Q,ρ,H,a,w,hb,h,hR=>by
  simp only[sV,Bool.and_eq_true]at hb;rw[LW]at h;refine wp_seq (wp_mono (jC O c _ ρ H a w hb.1 h hR) fun e a' w' J=>?_);cases e <;> simp only[Np,Exit.then]at J |-
  case normal=>obtain⟨E,H',F,L⟩:=J;exact jC O d Q E H' a' w' hb.2 F L
  case exit id=>exact J
  case ret=>exact J
 | .cond c x y,Q,ρ,H,a,w,hb,h,hR=>by
  simp only[sV,Bool.and_eq_true]at hb;rw[HY]at h;unfold wA at h;split at h
  ·rename_i t ht;obtain⟨S,hS,hF,hG,hN,hd,hn⟩:=hR;have e:=bQ hF (x:=c) (hn▸hb.1);rw[ht]at e;simp only[rep]at e;have hR:Rel n S0 w0 H0 ρ H a w:=⟨S,hS,hF,hG,hN,hd,hn⟩;exact wp_cond_split e (fun ht=>jC O x Q ρ H a w hb.2.1 (h.1 ht) hR) (fun ht=>jC O y Q ρ H a w hb.2.2 (h.2 ht) hR)
  ·exact h.elim
 | .block id c,Q,ρ,H,a,w,hb,h,hR=>by
  rw[CP]at h;refine wp_block (wp_mono (jC O c _ ρ H a w hb h hR) fun e a' w' J=>?_);cases e <;> simp only[Np,Exit.inBlock]at J |-
  case normal=>exact J
  case ret=>exact J
  case exit i=>
   obtain⟨E,H',F,L⟩:=J;simp only[Ex.blk]at F;by_cases e:i=id
   ·rw[if_pos e]at F |-;exact⟨E,H',F,L⟩
   ·rw[if_neg e]at F |-;exact⟨E,H',F,L⟩
 | .loop c,Q,ρ,H,a,w,hb,h,hR=>by
  rw[IT]at h;obtain⟨I,μ,h0,Z⟩:=h;refine wp_loop_ghost (fun m a w=>∃ρ H,I ρ H/\μ ρ H=m/\Rel n S0 w0 H0 ρ H a w) (μ ρ H) ⟨ρ,H,h0,rfl,hR⟩ ?_;rintro m a' w' ⟨E,H',hI,rfl,af⟩;refine wp_mono (jC O c _ E H' a' w' hb (Z E H' hI) af) fun e a2 w2 J=>?_
  cases e <;> simp only[Np,Exit.then]at J |-
  case normal=>obtain⟨ac,H2,⟨F,ae⟩,L⟩:=J;exact⟨_,ae,ac,H2,F,rfl,L⟩
  case exit id=>exact J
  case ret=>exact J
 | .exit id,Q,ρ,H,a,w,_,h,hR=>wp_exit ⟨ρ,H,h,hR⟩
 | .ret,Q,ρ,H,a,w,_,h,hR=>wp_ret ⟨ρ,H,h,hR⟩
 | .rangeFunc ..,_,_,_,_,_,_,h,_=>by simp[awp]at h
 | .scope c,Q,ρ,H,a,w,hb,h,hR=>by
  rw[DK]at h;refine wp_scope_straight (wp_mono (jC O c _ ρ H a w hb h hR) fun e a' w' J=>?_);cases e <;> simp only[Np,Exit.noGoto]at J |-
  case normal=>exact J
  case exit id=>exact J
  case ret=>exact J
 | .label _,Q,ρ,H,a,w,_,h,hR=>wp_label ⟨ρ,H,h,hR⟩
 | .goto _,_,_,_,_,_,_,h,_=>by simp[awp]at h
 | .refuse _,_,_,_,_,_,_,h,_=>by simp[awp]at h
def zI(P:Program)(ρ:Env)(H:aD):List ResultVar->(List AV->Prop)->Prop
 | [],K=>K []
 | .tmp t::r,K=>zI P ρ H r fun l=>K (ρ t::l)
 | .cell t ty::r,K=>match ldT P ty with
   | some l=>jS none H l (ρ t) fun x=>zI P ρ H r fun xs=>K (x::xs)
   | none=>False
def MI(R:AV->Prop):List AV->Prop
 | [x]=>R x
 | l=>R (.tup l)
def NJ(P:Program)(rs:List ResultVar)(R:AV->aD->Prop):Ex->Env->aD->Prop
 | .exit _,_,_=>False
 | _,ρ,H=>zI P ρ H rs (MI fun x=>R x H)
def SG(n:Nat):ResultVar->Bool
 | .tmp t=>decide (t<n)
 | .cell t _=>decide (t<n)
def Es(fn:Func)(c:Code)(m:Nat):Bool:=sV fn.ntmps c&&fn.results.toList.all (SG fn.ntmps)&&decide (m<=fn.ntmps)
section
variable{P:Program}{S:Sg}{H:aD}{w:World}{ρ:Env}{a:Act}
def Ob{G:Option Bool}{l:Option Nat}{x:AV}{K:AV->Prop}(h:jS G H l x K){u:Value}(E:rep S w x u):∃ad,u=.pointer (some ad):=by
 unfold jS at h;split at h
 ·simp only[rep]at E;obtain⟨b,o,rfl,_⟩:=E;exact⟨_,rfl⟩
 ·simp only[rep]at E;obtain⟨_,g,m,c,_,rfl⟩:=E;exact⟨_,rfl⟩
 ·exact h.elim
def Fq(tmps:Array Value):ResultVar->Sem Value
 | .tmp t=>pure (tmps.getD t undef)
 | .cell b t=>do loadVar t (<-asAddr (tmps.getD b undef))
def KU(fn:Func)(tmps:Array Value):results fn tmps=(do
  let vs <-fn.results.mapM (Fq tmps)
  pure (if h:vs.size=1 then vs[0]else .tuple vs)):=by
 unfold results
 congr 1
def tH(O:oU S w H)(hF:FR S w ρ a):∀(rs:List ResultVar) (K:List AV->Prop),(∀r∈rs,SG a.tmps.size r=true)->zI P ρ H rs K ->
  ∃l vs,K l/\(rs.mapM (Fq a.tmps)).run P w=.ok vs w/\aR S w l vs
 | [],K,_,h=>⟨[],[],h,by simp,by simp[aR]⟩
 | .tmp t::r,K,hb,h=>by
  simp only[zI]at h;obtain⟨l,vs,h1,M,L⟩:=tH O hF r _ (fun x J=>hb x (by simp[J])) h;have F:t<a.tmps.size:=by simpa[SG]using hb (.tmp t) (by simp)
  refine⟨_,a.tmps.getD t undef::vs,h1,?_,?_⟩
  ·rw[List.mapM_cons];simp only[Fq,Sem.run_bind,Sem.run_pure,Result.andThen_ok];rw[M];rfl
  ·simp only[aR];exact⟨_,_,rfl,hF t F,L⟩
 | .cell t ty::r,K,hb,h=>by
  simp only[zI]at h;split at h
  ·rename_i l hl;have F:t<a.tmps.size:=by simpa[SG]using hb (.cell t ty) (by simp)
   obtain⟨z,hz,Z⟩:=yX (S:=S) (w:=w) hl O h;obtain⟨v,hv,E⟩:=Z trivial _ (hF t F);obtain⟨ad,e⟩:=Ob h (hF t F);have u:=E w (Agree.refl S H w);rw[e]at u;simp only[Instr.loadAt,Instr.sureAddr,pure_bind]at u;obtain⟨l',vs,h1,M,L⟩:=tH O hF r _ (fun x J=>hb x (by simp[J])) hz;refine⟨_,v::vs,h1,?_,?_⟩
   ·have ha:(asAddr (a.tmps.getD t undef)).run P w=.ok ad w:=by rw[e];rfl
    rw[List.mapM_cons];simp only[Fq,Sem.run_bind,ha,Sem.run_pure,Result.andThen_ok,u];rw[M];rfl
   ·simp only[aR];exact⟨_,_,rfl,hv,L⟩
  ·exact h.elim
def aI.body{f:FuncId}{fn:Func}{c:Code}{args:List AV}{R:AV->aD->Prop}(mt:Nat->Bool)(hm:P.follows .mixedOrders=true)(hf:P.funcs[f]?=some fn)(hb:fn.body=some c)(hc:Es fn c args.length=true)
  (h:awp P (aI P) (dV P) mt c (NJ P fn.results.toList R) (HZ args) H):aI P f args H R:=by
 intro S w vals hS ha;simp only[Es,Bool.and_eq_true,decide_eq_true_eq]at hc;obtain⟨⟨L,O⟩,ak⟩:=hc;have aj:=eF _ _ ha;refine calls_of_wp hf hb (wp_mono (jC (n:=fn.ntmps) (S0:=S) (w0:=w) (H0:=H) hm c _ _ H _ w L h ⟨S,hS,?_,Grow.refl S w,dK.refl _ _,rfl,?_⟩) ?_)
 ·intro t ht;by_cases e:t<args.length
  ·obtain⟨u,h1,F⟩:=wX args vals t ha e;have hu:(vals.toArray++Array.replicate (fn.ntmps-vals.toArray.size) undef).getD t undef=u:=by
    have Z:t<vals.length:=by omega
    have:vals[t]=u:=by rw[List.getElem?_eq_getElem Z]at h1;injection h1
    simp[Array.getD_eq_getD_getElem?,Array.getElem?_append,Z,this]
   simp only[HZ];rw[hu];exact F
  ·simp only[HZ,List.getD,List.getElem?_eq_none (by omega:args.length<=t),Option.getD_none];simp only[rep]
 ·simp only[Array.size_append,List.size_toArray,Array.size_replicate,aj];omega
 ·intro e a' w' hq;have M:∀E H',zI P E H' fn.results.toList (MI fun x=>R x H')->Rel fn.ntmps S w H E H' a' w'->a'.defers=[]/\∃v,(results fn a'.tmps).run P w'=.ok v w'/\Us S w H R (.returned v) w':=by
   rintro E H' h1 ⟨S',J,ag,ab,aa,ah,ai⟩;refine⟨ah,?_⟩;obtain⟨l,vs,F,h3,h4⟩:=tH (P:=P) J.rows ag fn.results.toList _ (fun r hr=>by rw[ai];exact List.all_eq_true.1 O r hr) h1;have hr:(results fn a'.tmps).run P w'=.ok (if h:vs.toArray.size=1 then vs.toArray[0]else .tuple vs.toArray) w':=by rw[KU,Array.mapM_eq_mapM_toList];simp only[Sem.run_bind,Sem.run_map];rw[h3];simp only[Result.andThen_ok,Sem.run_pure]
   refine⟨_,hr,?_⟩;unfold MI at F;split at F
   ·rename_i x;simp only[aR]at h4;obtain⟨u,t,rfl,h5,rfl⟩:=h4;exact⟨_,x,H',S',rfl,F,J,by simpa using h5,ab,aa⟩
   ·rename_i ae;have ac:=eF _ _ h4;have af:¬vs.toArray.size=1:=by
     intro e;have:l.length=1:=by rw[<-ac];simpa using e
     match l,this with
     | [x],_=>exact ae x rfl
    rw[dif_neg af];exact⟨_,_,H',S',rfl,F,J,by simp only[rep];exact⟨vs,rfl,h4⟩,ab,aa⟩
  cases e <;> simp only[Np,bodyPost]at hq |-
  case normal=>obtain⟨E,H',h1,F⟩:=hq;exact M E H' h1 F
  case ret=>obtain⟨E,H',h1,F⟩:=hq;exact M E H' h1 F
  case exit id=>obtain⟨E,H',h1,F⟩:=hq;exact h1.elim
def RC.body{f:FuncId}{fn:Func}{c:Code}{args:List AV}{R:AV->aD->Prop}(mt:Nat->Bool)(M:P.follows .mixedOrders=true)(J:P.funcs[f]?=some fn)(u:fn.body=some c)(F:Es fn c args.length=true)
 (h:awp P (aI P) (dV P) mt c (NJ P fn.results.toList R) (HZ args) bJ):RC P f args R:=fun S w vals L _ E=>aI.body mt M J u F h S w vals L E
def PC.body{f:FuncId}{fn:Func}{c:Code}{args:List AV}{r:AV}(mt:Nat->Bool)(J:P.follows .mixedOrders=true)(F:P.funcs[f]?=some fn)(u:fn.body=some c)(E:Es fn c args.length=true)
 (h:awp P (aI P) (dV P) mt c (NJ P fn.results.toList fun x H'=>Conv H' x r) (HZ args) bJ):PC P f args r:=RC.conv (RC.body mt J F u E h)
def PC.q{f:FuncId}{args:List AV}{r:AV}(h:PC P f args r)(u:(fv r).isSome=true):dV P f args H r:=.inl ⟨args,ConvL.refl args,h,u⟩
end
end Go.Aw
end
