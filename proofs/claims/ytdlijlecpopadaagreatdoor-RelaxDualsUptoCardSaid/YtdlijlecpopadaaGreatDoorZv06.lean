/- Texts joined by a program: AwWp, AwWp2. -/
import Derived.Deep.LoopGhost
import Derived.Test.YtdlijlecpopadaaGreatDoorZv05
set_option linter.unusedSimpArgs false
set_option linter.unusedVariables false
set_option maxRecDepth 100000
section
namespace Go.Aw
open Go.RowKit
def Rel(n:Nat)(S0:Sg)(w0:World)(H0:aF)(ρ:Env)(H:aF)(a:Act)(w:World):Prop:=
 ∃S,St S w H∧FR S w ρ a∧Grow S0 w0 S w∧eC S0.N H0 H∧a.defers=[]∧a.tmps.size=n
def Xd(n:Nat):Option Nat→Bool
 | some d=>decide (d<n)
 | none=>true
def iT(n:Nat)(o:Oper):Bool:=o.op.operands.all (opB n)&&Xd n o.dst
section
variable{P:Program}{n:Nat}{S0:Sg}{w0:World}{H0:aF}{mt:Nat→Bool}{ops:Array Oper}
theorem sL{o:Oper}(h:iT n o=true):(∀x∈o.op.operands,opB n x=true)∧Xd n o.dst=true:=by
 simp only[iT,Bool.and_eq_true]at h;exact⟨fun x hx=>Array.all_eq_true_iff_forall_mem.1 h.1 x hx,h.2⟩
theorem rS(a:Act)(d:Option Nat)(v:Value):(a.put d v).tmps.size=a.tmps.size:=by cases d <;> simp[Act.put]
theorem lJ(a:Act)(d:Option Nat)(v:Value):(a.put d v).defers=a.defers:=by cases d <;> simp[Act.put]
theorem sH{S:Sg}{w:World}{ρ:Env}{a:Act}{o:Oper}{K:Option Bool→Prop}(hops:∀o∈ops,iT n o=true)(hF:FR S w ρ a)(hn:a.tmps.size=n)(h:bZ ops ρ o.guard K):
   ∃G,K G∧(Region.wanted o (yielded ops a.tmps)=true↔gt G):=by
 unfold bZ at h;unfold Region.wanted;cases hg:o.guard with
 | none=>
   rw[hg]at h;exact⟨none,h,by simp[gt]⟩
 | some jw=>
   obtain⟨j,want⟩:=jw;rw[hg]at h;simp only at h;cases hd:(ops[j]?).bind (·.dst)with
   | none=>rw[hd]at h;exact h.elim
   | some t=>
     rw[hd]at h;simp only at h;have ht:t<a.tmps.size:=by
       cases ho:ops[j]? with
       | none=>simp[ho]at hd
       | some oj=>
         simp[ho]at hd;have:=(sL (hops oj (Array.mem_of_getElem? ho))).2;rw[hd]at this;simpa[Xd,hn]using this
     have hy:yielded ops a.tmps j=match a.tmps.getD t undef with| .bool b=>some b|_=>none:=by
       unfold yielded;rw[hd];have e:a.tmps.getD t undef=a.tmps[t]:=by simp[Array.getD,ht]
       rw[e];simp only[Option.bind_some,Array.getElem?_eq_getElem ht];cases a.tmps[t] <;> rfl
     have hr:=hF t ht;split at h
     · rename_i b hb
       rw[hb]at hr;simp only[rep]at hr;rw[hr]at hy;refine⟨_,h,?_⟩;simp only[hy,gt];cases b <;> cases want <;> simp
     · rename_i g b hb
       rw[hb]at hr;simp only[rep]at hr;refine⟨_,h,?_⟩;cases g with
       | true=>
         rw[hr.1 rfl]at hy;simp only[hy,gt];cases b <;> cases want <;> simp
       | false=>
         rw[hr.2 rfl]at hy;simp[undef]at hy;simp[hy,gt]
     · exact h.elim
theorem dR{S:Sg}{w:World}{G:Option Bool}{z:AV}(h:¬gt G):rep S w (wr G z) undef:=by
 cases G with
 | none=>exact absurd trivial h
 | some b=>
   have:b=false:=by simpa[gt]using h
   subst this;simp[wr,rep]
theorem eK{S:Sg}{w:World}{G:Option Bool}{z:AV}{v:Value}(h:gt G)(hv:rep S w z v):rep S w (wr G z) v:=by
 cases G with
 | none=>exact hv
 | some b=>
   have:b=true:=h;subst this;simpa[wr,rep]using hv
end
section
variable{P:Program}{n:Nat}{S0:Sg}{w0:World}{H0:aF}{mt:Nat→Bool}{ops:Array Oper}{K:Env→aF→Prop}{K':Act→World→Prop}{Q':Exit→Act→World→Prop}{ρ:Env}{H:aF}{a:Act}{w:World}{o:Oper}{S:Sg}
def tR(P:Program)(ops:Array Oper)(o:Oper)(a:Act)(w:World)(K':Act→World→Prop)(Q':Exit→Act→World→Prop):Prop:=
 (Region.wanted o (yielded ops a.tmps)=true→o.wp P a w K' Q')∧(Region.wanted o (yielded ops a.tmps)=false→K' (a.put o.dst undef) w)
theorem dS{v:Value}{w':World}(h:(execOp a.eval o).run P w=.ok (.value v) w')(hk:K' (a.put o.dst v) w'):o.wp P a w K' Q':=by
 unfold Oper.wp;rw[h];exact hk
theorem Rel.step(hS:St S w H)(hF:FR S w ρ a)(hG:Grow S0 w0 S w)(hN:eC S0.N H0 H)(hd:a.defers=[])(hn:a.tmps.size=n){S':Sg}{w':World}{H':aF}{z:AV}{v:Value}{d:Option Nat}
   (hS':St S' w' H') (hG':Grow S w S' w') (hN':eC S.N H H') (hv:rep S' w' z v):Rel n S0 w0 H0 (upd ρ d z) H' (a.put d v) w':=
 ⟨S',hS',FR.put (hF.keep hG'.le (hG'.kept hS)) hv,hG.trans hG',hN.trans hN' hG.le.N,by rw[lJ];exact hd,by rw[rS];exact hn⟩
theorem oS(hS:St S w H)(hF:FR S w ρ a)(hG:Grow S0 w0 S w)(hN:eC S0.N H0 H)(hd:a.defers=[])(hn:a.tmps.size=n)(hb:∀x∈o.op.operands,opB n x=true){G:Option Bool}
   (hgt:Region.wanted o (yielded ops a.tmps)=true↔gt G) (hK:∀ρ' H' a' w',K ρ' H'→Rel n S0 w0 H0 ρ' H' a' w'→K' a' w') (h:fY P G ρ H o.op fun x=>K (upd ρ o.dst (wr G x)) H):
   tR P ops o a w K' Q':=by
 obtain⟨z,hz,hg⟩:=AO (hn▸hb) hF hS.rows h;refine⟨fun hw=>?_,fun hw=>?_⟩
 · have hgG:=hgt.1 hw
   obtain⟨v,hv,hr⟩:=hg hgG;exact dS (hr w (Agree.refl S H w) o rfl) (hK _ _ _ _ hz (Rel.step hS hF hG hN hd hn hS (Grow.refl S w) (eC.refl _ _) (eK hgG hv)))
 · have hgG:¬gt G:=fun h=>by rw[hgt.2 h]at hw;simp at hw
   exact hK _ _ _ _ hz (Rel.step hS hF hG hN hd hn hS (Grow.refl S w) (eC.refl _ _) (dR hgG))
theorem mL(hS:St S w H){r:Option Row}:eC S.N H (aJ H S.N r):=fun k hk h=>by rw[aD _ _ _ _ (Nat.ne_of_lt hk)];exact h
theorem Vf(t:TypeId)(v:Value)(w:World):(Instr.box t v).run P w=.ok (.pointer (some ⟨w.heap.size,0,none⟩)) (w.alloc (.cells v.cells t)):=by
 simp[Instr.box,newVar,newRow]
theorem N6{t:TypeId}{z:List AV}(h:eH P t=some z)(old:Value)(w:World):∃(v:Value) (i:TypeInfo),P.info? t=some i∧z=v.cells.toList.map oA∧(∀u∈v.cells.toList,u.oneCell'=true)∧v.cells.size≠0 ∧
   (Instr.alloc t true old).run P w=.ok (.pointer (some ⟨w.heap.size,0,none⟩)) (w.alloc (.cells v.cells t)):=by
 obtain⟨i,v,hi,hz,hzz,hsz,hne,h1⟩:=lE h;refine⟨v,i,hi,hzz,h1,by rw[hsz];exact hne,?_⟩;simp[Instr.alloc,zeroValue,typeInfo,hi,hz,newVar,newRow]
theorem zO(hS:St S w H){t:TypeId}{cs:List AV}{l:List Value}(hpos:0<cs.length)(hr:aS S w cs l)(h1:∀u∈l,u.oneCell'=true):
   ∃S',St S' (w.alloc (.cells l.toArray t)) (aJ H S.N (some ⟨t,cs.length,[cs]⟩))∧Grow S w S' (w.alloc (.cells l.toArray t))∧rep S' (w.alloc (.cells l.toArray t)) (.op S.N 0 0) (.pointer (some ⟨w.heap.size,0,none⟩)):=by
 have hl:=fT _ _ hr;have:=hS.newRow (e:=t) (sz:=cs.length) (cap:=1) (es:=[cs]) (xs:=l) (cur:=l.toArray) hpos (by simp) (by simpa using hr) h1 (by simp) (by simp[maxLen]) (by simp[hl]) (by simp[←hl]) (w':=w.alloc (.cells l.toArray t)) rfl rfl rfl rfl;refine⟨_,this.1,this.2,?_⟩;simp only[rep,Sg.addRow];exact⟨Nat.lt_succ_self _,w.heap.size,1,1,by simp,by simp⟩
theorem Bu:∀(i n:Nat),GK i n=List.range' i n
 | _,0=>rfl
 | i,n+1=>by simp[GK,List.range'_succ,Bu (i+1) n]
theorem Fc{sz n:Nat}:∀(l:List (Nat×List AV)) (vs:List (Nat×Value)) (i:Nat) (A:Array Value),l.map (·.1)=GK i l.length→dK sz (l.map (·.2))→l.length=vs.length →
   (∀(j k:Nat) (c:List AV),l[j]?=some (k,c)→∃(v:Value) (l':List Value),vs[j]?=some (k,v)∧v.cells=List.toArray l'∧aS S w c l'∧∀u∈l',u.oneCell'=true)→A.size=n*sz→i+l.length=n →
   ∃xs:List Value,Instr.fill (fun i=>some (i*sz,sz)) A vs=some (A.toList.take (i*sz)++xs).toArray∧aS S w (l.map (·.2)).flatten xs∧∀u∈xs,u.oneCell'=true
 | [],vs,i,A,_,_,hl,_,hA,hi=>by
   have:vs=[]:=List.eq_nil_of_length_eq_zero (by simpa using hl.symm);subst this;refine⟨[],?_,by simp[aS],by simp⟩;simp only[Instr.fill,List.append_nil];have:i=n:=by simpa using hi
   subst this;rw[List.take_of_length_le (by simp[hA])]
 | (k,c)::rest,vs,i,A,hmap,hlen,hl,hv,hA,hi=>by
   simp only[List.map_cons,List.length_cons,GK,List.cons.injEq]at hmap;obtain⟨rfl,hmap⟩:=hmap;simp only[List.map_cons,dK]at hlen;obtain⟨v,l',e1,e2,e3,e4⟩:=hv 0 k c (by simp);cases vs with
   | nil=>simp at e1
   | cons q vs=>
     simp at e1;subst e1;have hll:l'.length=sz:=by rw[fT _ _ e3];exact hlen.1
     simp only[List.length_cons]at hi;have hm:(k+1)*sz≤n*sz:=Nat.mul_le_mul_right _ (by omega);rw[Nat.add_mul,Nat.one_mul]at hm;have hz:=Ab l' 0 A (k*sz) (by rw[hll,hA];omega);simp only[Nat.add_zero]at hz;obtain⟨xs,f1,f2,f3⟩:=Fc (n:=n) rest vs (k+1) (A.toList.take (k*sz)++l'++A.toList.drop (k*sz+l'.length)).toArray hmap hlen.2 (by simpa using hl) (fun j i c hj=>by simpa using hv (j+1) i c (by simpa using hj))
       (by simp only[List.size_toArray,List.length_append,List.length_take,List.length_drop,Array.length_toList,hll,hA];omega) (by omega)
     refine⟨l'++xs,?_,?_,?_⟩
     · simp only[Instr.fill,e2,List.size_toArray,hll]
       rw[if_neg (by simp[hA];omega)];have hfold:(Array.foldl (fun cs (x:Value×Nat)=>cs.setIfInBounds (k*sz+x.2) x.1) A l'.toArray.zipIdx)=(A.toList.take (k*sz)++l'++A.toList.drop (k*sz+l'.length)).toArray:=by
         rw[←hz,←Array.foldl_toList];simp
       rw[hfold,f1]
       congr 2
       have e5:List.take ((k+1)*sz) (A.toList.take (k*sz)++l'++A.toList.drop (k*sz+l'.length))=A.toList.take (k*sz)++l':=by
         rw[Nat.add_mul,Nat.one_mul,List.take_append_of_le_length (by rw[List.length_append,List.length_take,Array.length_toList,hll,hA];omega),List.take_of_length_le (by rw[List.length_append,List.length_take,Array.length_toList,hll,hA];omega)]
       rw[e5,List.append_assoc]
     · simp only[List.map_cons,List.flatten_cons]
       exact cZ _ _ _ _ e3 f2
     · intro u hu
       rcases List.mem_append.1 hu with hu|hu
       · exact e4 u hu
       · exact f3 u hu
theorem Cx{t e:TypeId}{sz bytes:Nat}(he:bY P t=some (e,sz,bytes)){l:List (Nat×List AV)}{parts:Array (Nat×Value)}{m:Nat}(hmap:l.map (·.1)=GK 0 m)(hlen:dK sz (l.map (·.2)))(hl:l.length=parts.toList.length)
   (hv:∀(j k:Nat) (c:List AV),l[j]?=some (k,c)→∃(v:Value) (l':List Value),parts.toList[j]?=some (k,v)∧v.cells=List.toArray l'∧aS S w c l'∧∀u∈l',u.oneCell'=true) (hm:m*sz≤16777216):
   ∃xs:List Value,(Instr.buildSlice t m parts).run P w=.ok (.slice (some ⟨w.heap.size,0,none⟩) m m) (w.alloc (.cells xs.toArray e))∧aS S w (l.map (·.2)).flatten xs∧(∀u∈xs,u.oneCell'=true)∧l.length=m∧xs.length=m*sz:=by
 obtain⟨inf,z,hu,hi,rfl,_,hpos,_,hz,hzs⟩:=gW he;have hlm:l.length=m:=by
   have:=congrArg List.length hmap;simpa[Bu]using this
 have hflat:∀xs:List Value,aS S w (l.map (·.2)).flatten xs→xs.length=m*inf.size:=fun xs h=>by
   rw[fT _ _ h,jL _ (gZ.1 hlen),List.length_map,hlm]
 subst hlm;obtain⟨xs,f1,f2,f3⟩:=Fc (n:=l.length) l parts.toList 0 ((Array.range (l.length*inf.size)).map (z.cells[·%z.cells.size]!)) hmap hlen hl hv (by simp) (by simp);simp only[Nat.zero_mul,List.take_zero,List.nil_append]at f1;refine⟨xs,?_,f2,f3,rfl,hflat xs f2⟩;have hgt:¬l.length*inf.size>2^24:=by simpa using hm
 by_cases h0:l.length*inf.size=0
 · have hl0 : l.length = 0 := by
     rcases Nat.mul_eq_zero.1 h0 with h|h
     · exact h
     · omega
   have hp0:parts.toList=[]:=List.eq_nil_of_length_eq_zero (by rw[←hl,hl0]);have hx0:xs=[]:=List.eq_nil_of_length_eq_zero (by rw[hflat xs f2,h0]);subst hx0;simp[Instr.buildSlice,run_underlying hu,sizeOf,typeInfo,hi,h0,hp0,Instr.fill,newRow,hl0];have:(Array.range 0).map (fun _=>(default:Value))=#[]:=Array.eq_empty_of_size_eq_zero (by simp);rw[this]
 · simp[Instr.buildSlice,run_underlying hu,sizeOf,typeInfo,hi,hgt,h0,zeroValue,hz,newRow]
   rw[f1];simp
end
end Go.Aw
end
section
namespace Go.Aw
open Go.RowKit
section
variable{P:Program}{n:Nat}{S0:Sg}{w0:World}{H0:aF}{mt:Nat→Bool}{ops:Array Oper}{K:Env→aF→Prop}{K':Act→World→Prop}{Q':Exit→Act→World→Prop}{ρ:Env}{H:aF}{a:Act}{w:World}{o:Oper}{S:Sg}
theorem cP{G:Option Bool}(hgt:Region.wanted o (yielded ops a.tmps)=true↔gt G)(hG:G=none):Region.wanted o (yielded ops a.tmps)=true:=by subst hG;exact hgt.2 trivial
theorem Ha{f:FuncId}(h:aC P f=true):∃fn,P.funcs[f]?=some fn∧(fn.name == "runtime.NumGoroutine")=false∧fn.body.isNone=false:=by
 unfold aC at h;split at h
 · rename_i fn hf
   simp only[Bool.and_eq_true,bne_iff_ne,ne_eq]at h;refine⟨fn,hf,by simpa using h.1,?_⟩;cases hb:fn.body <;> simp_all
 · simp at h
theorem sF{f:FuncId}(h:aC P f=true)(args:Array Value)(w:World):(callFunc f args).run P w=.ok (.enter f args) w:=by
 obtain⟨fn,h1,h2,h3⟩:=Ha h;have h2':¬fn.name = "runtime.NumGoroutine" := by simpa using h2
 have h3':¬fn.body=none:=fun e=>by rw[e]at h3;simp at h3
 simp[callFunc,h1,h2',h3']
theorem eZ(hw:Region.wanted o (yielded ops a.tmps)=true)(h:o.wp P a w K' Q'):tR P ops o a w K' Q':=⟨fun _=>h,fun e=>by rw[hw]at e;simp at e⟩
theorem FD:∀(l:List Value),aS S w (l.map .v) l
 | []=>by simp[aS]
 | v::r=>by simp only[List.map_cons,aS];exact⟨v,r,rfl,kS,FD r⟩
theorem BG{x:AV}{g:FuncId}{fst cpt:List AV}{u:Value}(h:Hl x=some (g,fst,cpt))(hu:rep S w x u):
   ∃first captured:Array Value,u=.func (.func g) first captured∧aS S w fst first.toList∧aS S w cpt captured.toList:=by
 unfold Hl at h;split at h
 · rename_i f first captured
   simp only[Option.some.injEq,Prod.mk.injEq]at h;obtain⟨rfl,rfl,rfl⟩:=h;simp only[rep]at hu;exact⟨first,captured,hu,FD _,FD _⟩
 · rename_i f cap
   simp only[Option.some.injEq,Prod.mk.injEq]at h;obtain⟨rfl,rfl,rfl⟩:=h;simp only[rep]at hu;obtain⟨l,rfl,hl⟩:=hu;exact⟨#[],l.toArray,rfl,by simp[aS],by simpa using hl⟩
 · simp at h
theorem pG{c:Call}{f:Operand}(hc:c.callee=.value f){g:FuncId}{first captured:Array Value}(hf:a.eval f=.func (.func g) first captured)(ty:TypeId):
   resolve a.eval c ty=pure { target:=.fn (.func g) captured,args:=first++c.args.map a.eval }:=by
 unfold resolve;simp only[hc];rw[hf];rfl
theorem JK{quiet:Bool}{G:Option Bool}{c:Call}(hS:St S w H)(hF:FR S w ρ a)(hG:Grow S0 w0 S w)(hN:eC S0.N H0 H)(hd:a.defers=[])(hn:a.tmps.size=n)(ho:o.op=.call c)(hb:∀x∈o.op.operands,opB n x=true)
   (hgt:Region.wanted o (yielded ops a.tmps)=true↔gt G) (hK:∀ρ' H' a' w',K ρ' H'→Rel n S0 w0 H0 ρ' H' a' w'→K' a' w') (h:xL P (bN P) (dB P) quiet G o c ρ H K):tR P ops o a w K' Q':=by
 rw[ho]at hb;simp only[Op.operands,Call.operands]at hb;unfold xL at h;split at h
 · rename_i b hc
   obtain⟨ys,h2,hys⟩:=lU hF c.args.toList (fun x hx=>hn▸hb x (by simp[Array.mem_toList_iff.1 hx])) h;clear h;have h:=h2;clear h2;split at h
   · rename_i x t hargs
     obtain⟨z,hz,hl⟩:=CF (G:=G) (ty:=o.type) hS.rows h;refine⟨fun hw=>?_,fun hw=>?_⟩
     · have hgG:=hgt.1 hw
       have hr:=hys hgG;simp only[aS]at hr;obtain⟨u,t',e1,e2,rfl⟩:=hr;obtain⟨v,hv,hrun⟩:=hl hgG u e2;have ea:c.args.map a.eval=#[u]:=by
         apply Array.toList_inj.1;simpa using e1
       have et:c.argTypes=#[t]:=Array.toList_inj.1 (by simpa using hargs);refine dS (v:=v) (w':=w) ?_ (hK _ _ _ _ hz (Rel.step hS hF hG hN hd hn hS (Grow.refl S w) (eC.refl _ _) (eK hgG hv)));simp[execOp,ho,resolve,hc,invoke,builtin,ea,et,hrun w (Agree.refl S H w)]
     · have hgG:¬gt G:=fun h=>by rw[hgt.2 h]at hw;simp at hw
       exact hK _ _ _ _ hz (Rel.step hS hF hG hN hd hn hS (Grow.refl S w) (eC.refl _ _) (dR hgG))
   · rename_i s x t t' hargs
     split at h
     · rename_i hcond
       obtain⟨htt,hGn,_⟩:=hcond;subst hGn;subst htt;have hw:=cP hgt rfl;refine eZ hw ?_;have hr:=hys trivial;simp only[aS]at hr;obtain⟨us,t1,e1,e2,ux,t2,rfl,e3,rfl⟩:=hr;have ea:c.args.map a.eval=#[us,ux]:=Array.toList_inj.1 (by simpa using e1);have et:c.argTypes=#[t,t]:=Array.toList_inj.1 (by simpa using hargs);unfold vV at h;split at h
       · rename_i k e sz bytes he
         split at h
         · rename_i r hk
           have app : ∀ news, wO S w ux news → ((r.e = e ∧ r.sz = sz ∧ dK sz news ∧ (r.es.length + news.length) * bytes ≤ 140737488355328) ∧
               ∀k',H k'=none→K (upd ρ o.dst (.os k')) (aJ (aJ H k none) k' (some ⟨e,sz,r.es++news⟩)))→o.wp P a w K' Q':=by
             rintro news hsrc ⟨⟨rfl,rfl,hlen,hsize⟩,hk'⟩;simp only[rep]at e2;obtain⟨hkN,rfl,_,_,_,hloc0⟩:=e2;obtain⟨v',w',q1,q2,q3,q4⟩:=hS.append hk hloc0 (ty:=o.type) he hsrc hlen hsize;refine dS (v:=v') (w':=w') ?_ (hK _ _ _ _ (hk' S.N hS.fresh) (Rel.step hS hF hG hN hd hn q3 q4 ?_ ?_))
             · simp[execOp,ho,resolve,hc,invoke,builtin,ea,et,q1]
             · intro j hj h0
               rw[aD _ _ _ _ (Nat.ne_of_lt hj)];by_cases e:j=k
               · subst e;exact aB _ _ _
               · rw[aD _ _ _ _ e];exact h0
             · simp only[rep,Sg.addRow,if_true]
               exact⟨Nat.lt_succ_self _,trivial,q2⟩
           unfold B0 at h;split at h
           · exact app _ (L5 e3) h
           · rename_i k2
             split at h
             · rename_i r2 hk2
               simp only[rep]at e3;obtain⟨_,rfl,_,_,_,hloc2⟩:=e3;exact app _ (La (hS.rows k2 r2 hk2) hloc2) h
             · exact h.elim
           · rename_i k2 a2 b2
             split at h
             · rename_i r2 hk2
               exact app _ (CP (hS.rows k2 r2 hk2) e3).1 h
             · exact h.elim
           · exact h.elim
         · exact h.elim
       · rename_i es e sz bytes he
         have app : ∀ news, wO S w ux news → ((news ≠ [] ∧ dK sz es ∧ dK sz news ∧ (es.length + news.length) * bytes ≤ 140737488355328) ∧
             ∀k',H k'=none→K (upd ρ o.dst (.os k')) (aJ H k' (some ⟨e,sz,es++news⟩)))→o.wp P a w K' Q':=by
           rintro news hsrc ⟨⟨hne,hes,hlen,hsize⟩,hk'⟩;obtain⟨v',w',q1,q2,q3,q4⟩:=hS.appendNew e2 (ty:=o.type) he hsrc hne hes hlen hsize;refine dS (v:=v') (w':=w') ?_ (hK _ _ _ _ (hk' S.N hS.fresh) (Rel.step hS hF hG hN hd hn q3 q4 ?_ ?_))
           · simp[execOp,ho,resolve,hc,invoke,builtin,ea,et,q1]
           · intro j hj h0
             rw[aD _ _ _ _ (Nat.ne_of_lt hj)];exact h0
           · simp only[rep,Sg.addRow,if_true]
             exact⟨Nat.lt_succ_self _,trivial,q2⟩
         unfold B0 at h;split at h
         · exact app _ (L5 e3) h
         · rename_i k2
           split at h
           · rename_i r2 hk2
             simp only[rep]at e3;obtain⟨_,rfl,_,_,_,hloc2⟩:=e3;exact app _ (La (hS.rows k2 r2 hk2) hloc2) h
           · exact h.elim
         · rename_i k2 a2 b2
           split at h
           · rename_i r2 hk2
             exact app _ (CP (hS.rows k2 r2 hk2) e3).1 h
           · exact h.elim
         · exact h.elim
       · exact h.elim
     · exact h.elim
   · rename_i x y t t' hargs
     split at h
     · rename_i hcond
       obtain⟨hGn,_⟩:=hcond;subst hGn;have hw:=cP hgt rfl;refine eZ hw ?_;have hr:=hys trivial;simp only[aS]at hr;obtain⟨us,t1,e1,e2,ux,t2,rfl,e3,rfl⟩:=hr;have ea:c.args.map a.eval=#[us,ux]:=Array.toList_inj.1 (by simpa using e1);have et:c.argTypes=#[t,t']:=Array.toList_inj.1 (by simpa using hargs);have go : ∀ k a0 n0 r, H k = some r → a0 + n0 ≤ r.es.length → (∃ ad cc, us = .slice ad n0 cc ∧ (0 < n0 → ∃ g n' c', S.loc k = .slice (some ⟨g, 0, none⟩) n' c' ∧ ad = some ⟨g, a0 * r.sz, none⟩)) → ∀ news, wO S w ux news →
           (match bY P t with
             | some (_,sz,_)=>(r.sz=sz∧dK sz news)∧K (upd ρ o.dst (.v (.int .i64 (min news.length n0:Nat)))) (aJ H k (some { r with es:=r.es.take a0++news.take (min news.length n0)++r.es.drop (a0+min news.length n0) }))
             | none=>False)→o.wp P a w K' Q':=by
         intro k a0 n0 r hk han hx news hsrc hc2;split at hc2
         · rename_i e sz bytes he
           obtain⟨⟨h1,h2⟩,h3⟩:=hc2;obtain⟨w',q1,q2,q3⟩:=hS.copy hk (t':=t') (ty:=o.type) he h1 han hsrc h2 hx;refine dS (v:=goInt (min news.length n0:Nat)) (w':=w') ?_ (hK _ _ _ _ h3 (Rel.step hS hF hG hN hd hn q2 q3 ?_ (by simp only[rep];rfl)))
           · simp[execOp,ho,resolve,hc,invoke,builtin,ea,et,q1]
           · intro j hj h0
             by_cases e:j=k
             · subst e;rw[hk]at h0;simp at h0
             · rw[aD _ _ _ _ e];exact h0
         · exact hc2.elim
       have src:∀F:List (List AV)→Prop,B0 H y F→∃news,wO S w ux news∧F news:=by
         intro F hF;unfold B0 at hF;split at hF
         · exact⟨_,L5 e3,hF⟩
         · rename_i k2
           split at hF
           · rename_i r2 hk2
             simp only[rep]at e3;obtain⟨_,rfl,_,_,_,hloc2⟩:=e3;exact⟨_,La (hS.rows k2 r2 hk2) hloc2,hF⟩
           · exact hF.elim
         · rename_i k2 a2 b2
           split at hF
           · rename_i r2 hk2
             exact⟨_,(CP (hS.rows k2 r2 hk2) e3).1,hF⟩
           · exact hF.elim
         · exact hF.elim
       unfold PK Ko at h;split at h
       · rename_i k
         split at h
         · rename_i r hk
           obtain⟨news,hs,hc2⟩:=src _ h;have hR:=hS.rows k r hk;simp only[rep]at e2;obtain⟨_,rfl,ad,n,cc,hloc⟩:=e2;obtain⟨xs,hown,_,_⟩:=hR.sl hloc;have hn:n=r.es.length∧(0<r.es.length→∃g,ad=some ⟨g,0,none⟩):=by
             rcases hown.2 with⟨hv,h0⟩|⟨g,cap,cur,hv,_⟩
             · rw[hloc]at hv;injection hv with _ h2 _;exact⟨by omega,fun h=>by omega⟩
             · rw[hloc]at hv;injection hv with h1 h2 _;exact⟨h2,fun _=>⟨g,h1⟩⟩
           refine go k 0 r.es.length r hk (by omega) ⟨ad,cc,by rw[hloc,hn.1],fun hp=>?_⟩ news hs hc2;obtain⟨g,rfl⟩:=hn.2 hp;exact⟨g,n,cc,hloc,by simp⟩
         · exact h.elim
       · rename_i k a0 b0
         split at h
         · rename_i r hk
           obtain⟨news,hs,hc2⟩:=src _ h;have hR:=hS.rows k r hk;obtain⟨_,hb,hab⟩:=CP hR e2;simp only[rep]at e2;obtain⟨_,ad,n,c0,ad',cc,hloc,rfl,_,_,hpos,_⟩:=e2;refine go k a0 (b0-a0) r hk (by omega) ⟨ad',cc,rfl,fun hp=>?_⟩ news hs hc2;obtain⟨g,rfl,rfl⟩:=hpos (by omega);exact⟨g,n,c0,hloc,by rw[hR.sz]⟩
         · exact h.elim
       · exact h.elim
     · exact h.elim
   · rename_i x t hargs
     split at h
     · rename_i hcond
       obtain⟨hGn,_⟩:=hcond;subst hGn;have hw:=cP hgt rfl;refine eZ hw ?_;have hr:=hys trivial;simp only[aS]at hr;obtain⟨us,t1,e1,e2,rfl⟩:=hr;have ea:c.args.map a.eval=#[us]:=Array.toList_inj.1 (by simpa using e1);have et:c.argTypes=#[t]:=Array.toList_inj.1 (by simpa using hargs);have go : ∀ k a0 n0 r, H k = some r → a0 + n0 ≤ r.es.length → (∃ ad cc, us = .slice ad n0 cc ∧ (0 < n0 → ∃ g n' c', S.loc k = .slice (some ⟨g, 0, none⟩) n' c' ∧ ad = some ⟨g, a0 * r.sz, none⟩)) →
           (match bY P t with
             | some (e,sz,_)=>match eH P e with
               | some zs=>r.sz=sz∧K (upd ρ o.dst .any) (aJ H k (some { r with es:=r.es.take a0++List.replicate n0 zs++r.es.drop (a0+n0) }))
               | none=>False
             | none=>False)→o.wp P a w K' Q':=by
         intro k a0 n0 r hk han hx hc2;split at hc2
         · rename_i e sz bytes he
           split at hc2
           · rename_i zs hzs
             obtain⟨h1,h3⟩:=hc2;obtain⟨w',q1,q2,q3⟩:=hS.clear hk (ty:=o.type) he hzs h1 han hx;refine dS (v:=.tuple #[]) (w':=w') ?_ (hK _ _ _ _ h3 (Rel.step hS hF hG hN hd hn q2 q3 ?_ (by simp only[rep])))
             · simp[execOp,ho,resolve,hc,invoke,builtin,ea,et,q1]
             · intro j hj h0
               by_cases e:j=k
               · subst e;rw[hk]at h0;simp at h0
               · rw[aD _ _ _ _ e];exact h0
           · exact hc2.elim
         · exact hc2.elim
       unfold Gf Ko at h;split at h
       · rename_i k
         split at h
         · rename_i r hk
           have hR:=hS.rows k r hk;simp only[rep]at e2;obtain⟨_,rfl,ad,n,cc,hloc⟩:=e2;obtain⟨xs,hown,_,_⟩:=hR.sl hloc;have hn:n=r.es.length∧(0<r.es.length→∃g,ad=some ⟨g,0,none⟩):=by
             rcases hown.2 with⟨hv,h0⟩|⟨g,cap,cur,hv,_⟩
             · rw[hloc]at hv;injection hv with _ h2 _;exact⟨by omega,fun h=>by omega⟩
             · rw[hloc]at hv;injection hv with h1 h2 _;exact⟨h2,fun _=>⟨g,h1⟩⟩
           refine go k 0 r.es.length r hk (by omega) ⟨ad,cc,by rw[hloc,hn.1],fun hp=>?_⟩ h;obtain⟨g,rfl⟩:=hn.2 hp;exact⟨g,n,cc,hloc,by simp⟩
         · exact h.elim
       · rename_i k a0 b0
         split at h
         · rename_i r hk
           have hR:=hS.rows k r hk;obtain⟨_,hb,hab⟩:=CP hR e2;simp only[rep]at e2;obtain⟨_,ad,n,c0,ad',cc,hloc,rfl,_,_,hpos,_⟩:=e2;refine go k a0 (b0-a0) r hk (by omega) ⟨ad',cc,rfl,fun hp=>?_⟩ h;obtain⟨g,rfl,rfl⟩:=hpos (by omega);exact⟨g,n,c0,hloc,by rw[hR.sz]⟩
         · exact h.elim
       · exact h.elim
     · exact h.elim
   · rename_i x y t t' hargs
     obtain⟨z,hz,hl⟩:=BE (P:=P) (S:=S) (w:=w) (H:=H) (G:=G) (tys:=c.argTypes) (ty:=o.type) h;refine⟨fun hw=>?_,fun hw=>?_⟩
     · have hgG:=hgt.1 hw
       have hr:=hys hgG;simp only[aS]at hr;obtain⟨us,t1,e1,e2,ux,t2,rfl,e3,rfl⟩:=hr;obtain⟨v,hv,hrun⟩:=hl hgG us ux e2 e3;have ea:c.args.map a.eval=#[us,ux]:=Array.toList_inj.1 (by simpa using e1);refine dS (v:=v) (w':=w) ?_ (hK _ _ _ _ hz (Rel.step hS hF hG hN hd hn hS (Grow.refl S w) (eC.refl _ _) (eK hgG hv)));simp[execOp,ho,resolve,hc,invoke,builtin,ea,hrun w (Agree.refl S H w)]
     · have hgG:¬gt G:=fun h=>by rw[hgt.2 h]at hw;simp at hw
       exact hK _ _ _ _ hz (Rel.step hS hF hG hN hd hn hS (Grow.refl S w) (eC.refl _ _) (dR hgG))
   · rename_i x y t t' hargs
     obtain⟨z,hz,hl⟩:=CQ (P:=P) (S:=S) (w:=w) (H:=H) (G:=G) (tys:=c.argTypes) (ty:=o.type) h;refine⟨fun hw=>?_,fun hw=>?_⟩
     · have hgG:=hgt.1 hw
       have hr:=hys hgG;simp only[aS]at hr;obtain⟨us,t1,e1,e2,ux,t2,rfl,e3,rfl⟩:=hr;obtain⟨v,hv,hrun⟩:=hl hgG us ux e2 e3;have ea:c.args.map a.eval=#[us,ux]:=Array.toList_inj.1 (by simpa using e1);refine dS (v:=v) (w':=w) ?_ (hK _ _ _ _ hz (Rel.step hS hF hG hN hd hn hS (Grow.refl S w) (eC.refl _ _) (eK hgG hv)));simp[execOp,ho,resolve,hc,invoke,builtin,ea,hrun w (Agree.refl S H w)]
     · have hgG:¬gt G:=fun h=>by rw[hgt.2 h]at hw;simp at hw
       exact hK _ _ _ _ hz (Rel.step hS hF hG hN hd hn hS (Grow.refl S w) (eC.refl _ _) (dR hgG))
   · exact h.elim
 · rename_i f hc
   obtain⟨yf,h2,hf⟩:=aL (S:=S) (w:=w) h;clear h;have h:=h2;clear h2;split at h
   · rename_i g fst cpt hfn
     obtain⟨ys,h2,hys⟩:=lU hF c.args.toList (fun x hx=>hn▸hb x (by simp[hc,Array.mem_toList_iff.1 hx])) h;clear h;obtain⟨hok,h⟩:=h2;have hfv:=fun hg=>BG hfn (hf hg _ (cO hF (hn▸hb f (by simp[hc]))))
     have hargs:gt G→∃first captured:Array Value,a.eval f=.func (.func g) first captured∧aS S w (fst++ys++cpt) (first++c.args.map a.eval++captured).toList:=fun hg=>by
       obtain⟨first,captured,h1,h2,h3⟩:=hfv hg;refine⟨first,captured,h1,?_⟩;simp only[Array.toList_append];refine cZ _ _ _ _ (cZ _ _ _ _ h2 ?_) h3;simpa using hys hg
     split at h
     · rename_i hcond
       obtain⟨hGn,_⟩:=hcond;subst hGn;have hw:=cP hgt rfl;obtain⟨first,captured,hfe,hra⟩:=hargs trivial;have hexec:(execOp a.eval o).run P w=.ok (.enter g (first++c.args.map a.eval++captured)) w:=by
         simp only[execOp,ho];rw[pG hc hfe];simp[invoke,sF hok]
       refine eZ hw ?_;have hcalls:=h S w _ hS hra;unfold Oper.wp;rw[hexec];simp only[Oper.upon,Array.toArray_toList]at hcalls ⊢;refine hcalls.mono fun e w' ⟨v,r,H',S',he,hr,hS',hv,hg',hn'⟩=>?_
       subst he;exact hK _ _ _ _ hr (Rel.step hS hF hG hN hd hn hS' hg' hn' hv)
     · obtain⟨r,hq,hk⟩:=h
       refine⟨fun hw=>?_,fun hw=>?_⟩
       · have hgG:=hgt.1 hw
         obtain⟨first,captured,hfe,hra⟩:=hargs hgG;have hexec:(execOp a.eval o).run P w=.ok (.enter g (first++c.args.map a.eval++captured)) w:=by
           simp only[execOp,ho];rw[pG hc hfe];simp[invoke,sF hok]
         rcases hq hgG with hq|⟨x,rfl,hpc⟩
         · obtain⟨v,hv'⟩:=hq.val
           obtain⟨hv,hcalls⟩:=hq.calls hv' hS hra;rw[G8 (by rw[hv'];rfl)]at hk;unfold Oper.wp;rw[hexec];simp only[Oper.upon,Array.toArray_toList]at hcalls ⊢;refine hcalls.mono fun e w' ⟨he,p1,p2,p3,p4,p5⟩=>?_
           subst he;exact hK _ _ _ _ hk (Rel.step hS hF hG hN hd hn (hS.after p4 p5) (hS.grow p1 p2 p3 p4 p5) (eC.refl _ _) (eK hgG (hv S w')))
         · cases quiet with
           | true=>exact hk.elim
           | false=>
             have hcalls:=(PC.use (H:=H) hpc (K:=fun y H'=>y=x∧H'=H) ⟨rfl,rfl⟩) S w _ hS hra;unfold Oper.wp;rw[hexec];simp only[Oper.upon,Array.toArray_toList]at hcalls ⊢;refine hcalls.mono fun e w' ⟨v,r,H',S',he,⟨hr,hH⟩,hS',hv,hg',hn'⟩=>?_
             subst he hr hH;exact hK _ _ _ _ hk (Rel.step hS hF hG hN hd hn hS' hg' hn' (eK hgG hv))
       · have hgG:¬gt G:=fun h=>by rw[hgt.2 h]at hw;simp at hw
         obtain⟨z,hk⟩:=HI hk;exact hK _ _ _ _ hk (Rel.step hS hF hG hN hd hn hS (Grow.refl S w) (eC.refl _ _) (dR hgG))
   · exact h.elim
 · exact h.elim
end
end Go.Aw
end
