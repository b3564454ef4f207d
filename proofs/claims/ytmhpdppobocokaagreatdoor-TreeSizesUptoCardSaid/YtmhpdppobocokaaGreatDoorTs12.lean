import Derived.RangeFuncBox
import Derived.RangeFuncNested
import Derived.RangeFuncLeaves
import Derived.Shelf.Abstract
import Derived.WalkKit
import Derived.OwnWalkIn
import Derived.TacticsInMore
import Derived.LoopNIn
import Derived.LoopIn
import Derived.Maps.AppendAt
import Derived.Test.YtmhpdppobocokaaGreatDoorTs10
set_option linter.unusedSimpArgs false
set_option linter.unusedVariables false
set_option linter.defProp false
set_option maxRecDepth 100000
namespace Go.Proofs.YtmhpdppobocokaaGreatDoor
open Go.Aw Go.Aw.D Go.Proofs Ty
namespace Nu
open Go.Proofs.Tryz
open Go.Nu Go.Sb Go.RowKit Go.Shelf
attribute [local go_sem] Oper.semAt_some
def Ec(b:Nat)(A B:World):Prop:=∀v,Boxed A b 3 v->Boxed B b 3 v
structure Enum(s N:Nat)(e:Nat->Nat):Prop where
 pos:0<N
 zero:e 0=0
 le:∀i,e i<=s
 mono:∀i,i+1<N->e i<e (i+1)
 last:∀i,i<N->(e i=s↔i+1=N)
 step:∀i,i+1<N->bits .and .i64 (wrap64 ((e i:Int)-(s:Int))) (s:Int)=(e (i+1):Nat)
set_option maxRecDepth 100000 in
set_option maxHeartbeats 1000000 in
theorem Ta (F:Fence) (n:Nat) (h6:F.fn 252) (ag:F.round=none) (hn:1<=n) (l Bn:Nat) (s N:Nat) (e:Nat->Nat) (O:Enum s N e) (J Jx:List Nat->World->Prop)
    (hY:∀u x W,J u W->u.length<N->YieldAt F (n-1) prog l #[.int .i64 (x:Nat)] W fun r W'=>
      (r=.returned (.bool true)/\J (u++[x]) W'/\Ec Bn W W')\/(r=.returned (.bool false)/\Jx (u++[x]) W'))
    (W:World) (ac:Boxed W Bn 3 (.int .i64 s)) (h0:J [] W):
    CallsIn F n prog 252 #[.func (.yield l) #[] #[],.pointer (some ⟨Bn,0,none⟩)] W fun r W'=>(∃v,r=.returned v) /\
      ((∃ys,ys=(List.range N).map e/\J ys W')\/(∃u,u <+: (List.range N).map e/\Jx u W')):=by
  refine callsIn_of_wp func252 rfl h6 ?_ ag
  simp only[Tryz.ntmps252,List.size_toArray,Xae,List.length_nil,Nat.reduceAdd,Nat.reduceSub,Array.replicate_succ,Array.replicate_zero,List.push_toArray,List.append_toArray,Xau,Xaw]
  gi_wp2
  gi_loopw [3] (fun p wr=>∃i v:Nat,p=.int .i64 (v:Nat)/\e i=v/\i<N/\Boxed wr Bn 3 (.int .i64 s)/\J ((List.range i).map e) wr)
    (fun p wr=>s-(intOf p).toNat)
  case atStart=>
    exact⟨0,0,rfl,O.zero,O.pos,ac,h0⟩
  case round=>
    obtain⟨i,v,rfl,hv,hi,hB,ah⟩:=hrel
    have E:(List.range i).map e++[v]=(List.range (i+1)).map e:=by rw[List.range_succ,Xak,<-hv];rfl
    obtain⟨fn,tmps,assign,body,hy,hR⟩:=hY _ v wr ah (by simp;exact hi)
    gi_wp2
    refine hR.mono ?_
    rintro r W3 (⟨rfl,Z,ae⟩|⟨rfl,aa⟩)
    . have L:=ae _ hB
      have ai:=L.cell
      gi_wp2
      . have hx:v≠s:=fun h=>by subst h;rename_i hh;simp at hh
        have M:i+1<N:=by
          rcases(by omega:i+1<N\/i+1=N)with h|h
          . exact h
          . exact absurd (hv▸(O.last i hi).2 h) hx
        have ab:=O.step i M
        have af:=O.mono i M
        have aj:=O.le (i+1)
        rw[hv]at ab af
        rw[ab]
        refine⟨⟨i+1,e (i+1),rfl,rfl,M,L,E▸Z⟩,?_⟩
        simp only[intOf]
        omega
      . have hx:v=s:=by rename_i hh;simp at hh;omega
        have hN:i+1=N:=(O.last i hi).1 (hv.trans hx)
        go_end0
        exact⟨⟨_,rfl⟩,.inl ⟨_,rfl,by rw[<-hN,<-E];exact Z⟩⟩
    . gi_wp2
      go_end0
      refine⟨⟨_,rfl⟩,.inr ⟨_,?_,aa⟩⟩
      rw[E]
      rw[show List.range (i+1)=(List.range N).take (i+1)by rw[List.take_range,Xbu (by omega)],List.map_take]
      exact List.take_prefix _ _
set_option maxHeartbeats 1000000 in
theorem Sy (F:Fence) (n:Nat) (h5:F.fn 208) (u:F.round=none) (s:Nat) (w:World):
    CallsIn F n prog 208 #[.int .i64 s] w fun e w'=>e=.returned (.func (.func 252) #[] #[.pointer (some ⟨w.heap.size,0,none⟩)])/\w'=w.alloc (.cells #[.int .i64 s] 3):=by
  refine callsIn_of_wp func208 rfl h5 ?_ u
  simp only[Tryz.ntmps208,List.size_toArray,Xae,List.length_nil,Nat.reduceAdd,Nat.reduceSub,Array.replicate_succ,Array.replicate_zero,List.push_toArray,List.append_toArray,Xau,Xaw]
  gi_wp2
  go_ret
  exact⟨rfl,rfl⟩
def MS(F:Fence)(n:Nat)(Z:F.fn 252)(E:F.round=none)(O:1<=n)(u:Nat)(s N:Nat)(e:Nat->Nat)(hE:Enum s N e)(w:World)(M:Boxed w u 3 (.int .i64 s)):
  SeqStopsK F n prog 252 #[.pointer (some ⟨u,0,none⟩)] (fun x:Nat=>#[Value.int .i64 x]) (Ec u) (fun ys=>ys=(List.range N).map e) (fun L=>L <+: (List.range N).map e) N w:=fun l J Jx W hW _ _ hY h0=>
 Ta F n Z E O l u s N e hE J Jx hY W ((hW.block u M.lt).trans M) h0
def SV{b:Nat}{A B C:World}(h:Ec b A B)(k:Ec b B C):Ec b A C:=fun v u=>k v (h v u)
def RO{b:Nat}(W:World)(l:Nat)(o u:Obj)(F:W.heap[l]?=some o)(J:o.isCells=false):Ec b W (W.putObj l u):=fun v E=>E.kept (grownBy_putObj' W l u) (fun e=>by cases e;rw[show W.heap[b]?=_ from E]at F;cases F;cases J)
def qQ{W:World}{b u:Nat}{e:TypeId}{size:Nat}{v:Value}{k:Nat}{xs:List Value}(h:W.ownsRow b e size v k xs)(J:u<=b):W.ownsRow u e size v k xs:=by
 refine⟨h.1,?_⟩;rcases h.2 with h0|⟨g,cap,cur,E,F,r⟩
 ·exact .inl h0
 ·exact .inr ⟨g,cap,cur,E,Xan J F,r⟩
def Nv(F:Fence)(n:Nat)(h5:F.fn 151)(u:F.round=none)(s:Nat)(w:World):
  CallsIn F n prog 151 #[.int .i64 s] w fun e w'=>e=.returned (.bool true)/\w'=w:=by
 refine callsIn_of_wp func151 rfl h5 ?_ u;simp only[Tryz.ntmps151,List.size_toArray,Xae,List.length_nil,Nat.reduceAdd,Nat.reduceSub,Array.replicate_succ,Array.replicate_zero,List.push_toArray,List.append_toArray,Xau,Xaw]
 gi_wp2
 go_ret
 exact⟨rfl,rfl⟩
def IX{W:World}{base:Nat}{e:TypeId}{size:Nat}{v:Value}{k:Nat}{xs:List Value}(h:W.ownsRow base e size v k xs):∃ad cap,v=.slice ad k cap:=by
 rcases h.2 with⟨rfl,h0⟩|⟨g,cap,_,rfl,_⟩
 ·exact⟨none,0,by rw[h0]⟩
 ·exact⟨_,cap,rfl⟩
def Tr:(prog.info? 3).map (fun i=>(i.zero,i.size,i.bytes))=some (some (.int .i64 0),1,8):=by kernel_rfl
set_option maxRecDepth 100000 in
set_option maxHeartbeats 4000000 in
theorem Tz (F:Fence) (n:Nat) (h0:F.fn 150) (h3:F.fn 151) (h4:F.fn 208) (h5:F.fn 252) (O:F.round=none) (hn:3<=n) (s N:Nat) (e:Nat->Nat) (hE:Enum s N e) (hN:N<=8192) (w:World):
    CallsIn F n prog 150 #[.int .i64 s,.func (.func 151) #[] #[]] w fun r W'=>∃v,r=.returned (.tuple #[v,.int .i64 0])/\W'.ownsRow w.heap.size 3 1 v N (((List.range N).map e).map fun x:Nat=>Value.int .i64 x)/\Below w.heap.size w W':=by
  have h1:1<=n:=by omega
  obtain⟨i0,hi,ar,aq,an⟩:=info_parts Tr
  refine callsIn_of_wp_marks func150 rfl h0 ?_ O
  simp only[Tryz.ntmps150,List.size_toArray,Xae,List.length_nil,Nat.reduceAdd,Nat.reduceSub,Array.replicate_succ,Array.replicate_zero,List.push_toArray,List.append_toArray,Xau,Xaw]
  gi_wp2_with (gi_at_call 208;refine(Sy F (n-1) h4 O s _).mono ?_;rintro r w' ⟨rfl,rfl⟩)
  have bH:=Boxed.new w 166 (.func (.func 151) #[] #[])
  have bR:=Boxed.new (w.alloc (.cells #[.func (.func 151) #[] #[]] 166)) 23 (.slice none 0 0)
  have bE:=Boxed.new ((w.alloc (.cells #[.func (.func 151) #[] #[]] 166)).alloc (.cells #[.slice none 0 0] 23)) 44 (.int .i64 0)
  have bO:=Boxed.new (((w.alloc (.cells #[.func (.func 151) #[] #[]] 166)).alloc (.cells #[.slice none 0 0] 23)).alloc (.cells #[.int .i64 0] 44)) 23 (.slice none 0 0)
  have bS:=Boxed.new ((((w.alloc (.cells #[.func (.func 151) #[] #[]] 166)).alloc (.cells #[.slice none 0 0] 23)).alloc (.cells #[.int .i64 0] 44)).alloc (.cells #[.slice none 0 0] 23)) 3 (.int .i64 s)
  simp only[World.size_alloc]at bR bE bO bS
  have am:Below w.heap.size w (((((w.alloc (.cells #[.func (.func 151) #[] #[]] 166)).alloc (.cells #[.slice none 0 0] 23)).alloc (.cells #[.int .i64 0] 44)).alloc (.cells #[.slice none 0 0] 23)).alloc (.cells #[.int .i64 s] 3)):=
    (((((Below.refl _ w).alloc (Xad _) _).alloc (by simp) _).alloc (by simp;omega) _).alloc (by simp;omega) _).alloc (by simp;omega) _
  refine wpIn_rangeFunc_ownG O h1 (gf:=252) (lb:=#[.pointer (some ⟨w.heap.size+1+1+1+1,0,none⟩)]) rfl h5 (enters_of func252 (by kernel_rfl) rfl)
    (MS F (n-1) h5 O (by omega) (w.heap.size+1+1+1+1) s N e hE _ bS) (fun h k=>SV h k) (fun W l o o' _ hl ho _=>RO W l o o' hl ho) (Below.refl _ _) (fun _=>rfl)
    (fun E W=>(((((∃v,Boxed W (w.heap.size+1+1+1) 23 v/\W.ownsRow (w.heap.size+1+1+1+1+1) 3 1 v E.length (E.map fun x:Nat=>Value.int .i64 x)/\True)/\Boxed W w.heap.size 166 (.func (.func 151) #[] #[]))/\Boxed W (w.heap.size+1) 23 (.slice none 0 0))/\Boxed W (w.heap.size+1+1) 44 (.int .i64 0))/\Boxed W (w.heap.size+1+1+1+1) 3 (.int .i64 s))/\Below w.heap.size w W)
    (fun _ _ _=>False)
    (OwnFrom.and (OwnFrom.and (OwnFrom.and (OwnFrom.and (OwnFrom.and (Own.from (holdsRow_own (w.heap.size+1+1+1+1+1) (w.heap.size+1+1+1) 23 3 1 (fun E:List Nat=>E.length) (fun E=>E.map fun x:Nat=>Value.int .i64 x) (fun _ _=>True)) _) (Own.from (boxed_own _ _ _) _)) (Own.from (boxed_own _ _ _) _)) (Own.from (boxed_own _ _ _) _)) (Own.from (boxed_own _ _ _) _)) (ownFrom_below (Xad _) (by simp;omega)))
    (fun _ _ _ _ _ hs _ _=>hs)
    ⟨⟨⟨⟨⟨⟨_,bO.alloc _,World.ownsRow_nil _ _ _ _,trivial⟩,(((bH.alloc _).alloc _).alloc _).alloc _⟩,((bR.alloc _).alloc _).alloc _⟩,(bE.alloc _).alloc _⟩,bS⟩,am⟩
    (fun x=>{ tmps:=#[.int .i64 s,.func (.func 151) #[] #[],undef,.pointer (some ⟨w.heap.size,0,none⟩),.pointer (some ⟨w.heap.size+1,0,none⟩),.pointer (some ⟨w.heap.size+1+1,0,none⟩),.pointer (some ⟨w.heap.size+1+1+1,0,none⟩),.int .i64 x,.int .i64 s,.func (.func 252) #[] #[.pointer (some ⟨w.heap.size+1+1+1+1,0,none⟩)],.int .i64 x,undef,undef,undef,undef,undef,undef,undef,undef,undef,undef,undef,undef],defers:=[] }) ?assign ?body ?done ?stop
  case assign=>
    intro l x W K hK
    gi_wp2
    exact hK
  case body=>
    rintro l E x W ⟨⟨⟨⟨⟨⟨v,hv,J,_⟩,hh⟩,hr⟩,he⟩,hS⟩,hB⟩ ay
    have az:=hS.lt
    have hc:=hv.cell
    have a7:=hh.cell
    have hd:1<=n-1-1:=by omega
    have ak:((E.length:Int) == 8192)=false:=by rw[beq_eq_false_iff_ne];omega
    obtain⟨ad,cap,rfl⟩:=IX J
    gi_wp2_with (first|(gi_at_call 151;refine(CallsIn.inRound l (Nv F _ h3 O x _)).mono ?_;rintro r w' ⟨rfl,rfl⟩)|(gi_at_builtin;refine wpListIn_append_own _ rfl _ _ 23 rfl (w.heap.size+1+1+1+1+1) 3 i0 (.int .i64 0) 1 8 Tryz.underlying23 hi ar aq an rfl (by decide) _ _ _ rfl (J.alloc _) ⟨w'.heap.size,0,none⟩ 1 1 [.int .i64 x] rfl rfl (cell_one_new _ _ _) (by simp[Value.oneCell']) (by simp[maxLen];omega) (by omega) (by simp;omega) ?_;intro v' w1 L M _;obtain⟨g',cap',rfl⟩:=ownsRow_succ L;obtain⟨ac,aj,af,ah,ap⟩:=hv.appended (by decide) (qQ J (show w.heap.size<=_ by omega)) hB.size (by omega) (qQ L (show w.heap.size<=_ by omega)) M;have a5:=ac.cell;have ax:=ac.frozen))
    have ae:=L.kept (grownBy_setCell' w1 (w.heap.size+1+1+1) (.slice (some ⟨g',0,none⟩) (E.length+1) cap')) (.inr (ac.not_row (by decide) L).symm)
    have aa:(w'.alloc (.cells #[.int .i64 x] 3)).grownBy w1 (Value.slice ad E.length cap).ownBlock:=M
    have other:∀{b:Nat} {t:TypeId} {u:Value},b<w.heap.size+1+1+1+1+1->b≠w.heap.size+1+1+1->Boxed w' b t u->Boxed (w1.setCell ⟨w.heap.size+1+1+1,0,none⟩ (.slice (some ⟨g',0,none⟩) (E.length+1) cap')) b t u:=by
      intro b t u hb ag ao
      refine Boxed.other ((ao.alloc _).kept aa (fun e=>?_)) ag _
      rcases J.2 with⟨h0,_⟩|⟨g,aw,cur,h0,hg,_⟩
      . rw[h0]at e;simp[Value.ownBlock]at e
      . rw[h0]at e
        have:b=g:=by simpa[Value.ownBlock]using e
        omega
    have au:List.map (fun x:Nat=>Value.int .i64 x) (E++[x])=List.map (fun x:Nat=>Value.int .i64 x) E++[Value.int .i64 x]:=by simp
    refine⟨ah.from _,fun u hu=>other (by omega) (by omega) hu,⟨⟨⟨⟨⟨_,aj,?_,trivial⟩,other (by omega) (by omega) hh⟩,other (by omega) (by omega) hr⟩,other (by omega) (by omega) he⟩,other (by omega) (by omega) hS⟩,hB.trans ap⟩
    rw[au,Xac]
    exact ae
  case done=>
    rintro D ys W hD rfl ⟨⟨⟨⟨⟨⟨v,hv,J,_⟩,hh⟩,hr⟩,he⟩,hS⟩,hB⟩ hK
    have hc:=hv.cell
    obtain⟨ad,cap,rfl⟩:=IX J
    have a8:=hr.cell
    have a6:=hr.frozen
    have a4:=he.cell
    have a0:=he.frozen
    gi_wp2
    have af:=(hr.set (.slice ad N cap)).other (show w.heap.size+1≠w.heap.size+1+1 by omega) (.int .i64 0)
    have av:=(he.other (show w.heap.size+1+1≠w.heap.size+1 by omega) (.slice ad N cap)).set (.int .i64 0)
    have ab:((List.range N).map e).length=N:=by simp
    rw[ab]at J
    have ai:=ownsRow_setCell_below (ownsRow_setCell_below J (a:=⟨w.heap.size+1,0,none⟩) (by show w.heap.size+1<_;omega) (.slice ad N cap)) (a:=⟨w.heap.size+1+1,0,none⟩) (by show w.heap.size+1+1<_;omega) (.int .i64 0)
    have al:=(hB.setCell (p:=⟨w.heap.size+1,0,none⟩) (by show w.heap.size<=w.heap.size+1;omega) (.slice ad N cap)).setCell (p:=⟨w.heap.size+1+1,0,none⟩) (by show w.heap.size<=w.heap.size+1+1;omega) (.int .i64 0)
    have Z:=((KeepsOthers.setCell W ⟨w.heap.size+1,0,none⟩ (.slice ad N cap)).trans (KeepsOthers.setCell _ ⟨w.heap.size+1+1,0,none⟩ (.int .i64 0))).same D _ hK rfl
    generalize (W.setCell ⟨w.heap.size+1,0,none⟩ (.slice ad N cap)).setCell ⟨w.heap.size+1+1,0,none⟩ (.int .i64 0)=W2 at *
    refine⟨by simp,.inl ⟨_,_,rfl,run_takeDeferred Z,?_⟩⟩
    have c1:=cell_kept af.cell (grownBy_putObj' _ D (.deferred none)) (fun r e=>by cases e;exact⟨_,Z,rfl⟩)
    have c2:=cell_kept av.cell (grownBy_putObj' _ D (.deferred none)) (fun r e=>by cases e;exact⟨_,Z,rfl⟩)
    refine⟨.tuple #[.slice ad N cap,.int .i64 0],?_,_,rfl,qQ (ownsRow_putObj ai _ Z rfl) (by omega),al.trans (belowK_b (w:=w) (Xad _) W2 D _ _ (by simp at hD;omega) Z rfl rfl)⟩
    simp[results,f150,go_sem,c1,c2]
  case stop=>
    rintro D c E W _ _ h _
    exact h.elim
end Nu
namespace Nu
open Go.Proofs.Tryz
open Go.Nu Go.Sb Go.RowKit
def DZ{S:Sg}{w:World}{g:Nat}:∀(xs:List Nat) (o:Nat),(∀i x,xs[i]?=some x->w.cell? ⟨g,o+i,none⟩=some (.int .i64 (x:Nat)))->eB S w g 1 o (xs.map fun x:Nat=>aP (x:Int))
 | [],_,_=>by simp[eB]
 | x::xs,o,h=>by simp only[Xar,eB];refine⟨rfl,?_,DZ xs (o+1) fun i y u=>by have:=h (i+1) y (by simpa using u);rw[show o+1+i=o+(i+1)by omega];exact this⟩;simp only[aP,bW];exact⟨⟨_,by have:=h 0 x rfl;simpa using this,rfl,by simp[rep]⟩,trivial⟩
def PC.libRow{f:FuncId}{a:List Value}{xs:List Nat}{t:TypeId}(h0:xs≠[])(h:∀w,Calls prog f a.toArray w fun r w'=>∃v,r=.returned (.tuple #[v,.int .i64 0])/\w'.ownsRow w.heap.size t 1 v xs.length (xs.map fun x:Nat=>Value.int .i64 x)/\Below w.heap.size w w'):
  PC prog f (a.map .v) (.tup [.sl (xs.map fun x:Nat=>aP (x:Int)),int 0]):=by
 intro S w vals L hf ha;obtain rfl:vals=a:=by
  clear h;induction a generalizing vals with
  | nil=>
   cases vals with
   | nil=>rfl
   | cons x r=>simp[aR]at ha
  | cons x a ih=>simp only[Xar,aR]at ha;obtain⟨u,t,rfl,h1,h2⟩:=ha;simp only[rep]at h1;subst h1;rw[ih t h2]
 refine(h w).mono fun e w' ⟨v,he,hr,M⟩=>?_
 have ab:xs.length≠0:=fun h=>h0 (Xat.1 h)
 rcases hr.2 with⟨_,hz⟩|⟨g,cap,cur,rfl,hg,aa,O,ac,af,ag⟩
 ·exact absurd hz ab
 have F:=hr.cellAt;have Z:g<w'.heap.size:=(Array.getElem?_eq_some_iff.1 aa).1;have J:eG S w w':=fun k E=>M.block k (L.fz_lt k (L.ro_fz k E))
 have ae:eB (S.addRo g) w' g 1 0 (xs.map fun x:Nat=>aP (x:Int)):=by
  refine DZ xs 0 fun i x hx=>?_
  have hi:=(List.getElem?_eq_some_iff.1 hx).1;rw[Nat.zero_add,F i (by omega),List.getElem?_map,hx];rfl
 refine⟨_,_,bJ,S.addRo g,he,rfl,⟨?_,?_,fun k r E=>by simp[bJ]at E,fun k r E=>by simp[bJ]at E,fun k k' r r' E=>by simp[bJ]at E,L.tabs.keep (S.le_addRo g) J⟩,?_,⟨S.le_addRo g,fun k E=>.inl E,M.os,M.tape,M.output,M.size,fun k E=>M.block k (L.fz_lt k E),?_⟩,dK.refl _ _⟩
 ·rintro k (E|E)
  ·exact .inl (L.ro_fz k E)
  ·exact .inr E
 ·rintro k (E|rfl)
  ·exact Xaz (L.fz_lt k E) M.size
  ·exact Z
 ·simp only[rep,aR];refine⟨[_,_],rfl,_,[_],rfl,⟨_,_,_,rfl,by simp,O,ac,.inr ⟨g,0,1,rfl,.inr rfl,by decide,ae⟩⟩,_,[],rfl,rfl,rfl⟩
 ·rintro k (E|rfl)
  ·exact .inl E
  ·exact .inr fun E=>by have:=L.fz_lt _ E;omega
def Q7{s:Nat}(O:s<2^62):Enum s (2^pop 64 s) (dep 64 s) where
 pos:=Nat.two_pow_pos _
 zero:=GF _ _
 le:=lJ _ _
 mono i h:=mY _ _ _ _ (by omega) h
 last i h:=by
  constructor
  ·intro e;have u:=LJ (w:=64) (s:=s) (by omega);have:=RJ h (by omega) (e.trans u.symm);omega
  ·intro e;have u:=LJ (w:=64) (s:=s) (by omega);rw[show i=2^pop 64 s-1 by omega];exact u
 step i h:=by
  have h1:=BU 64 s i (by omega) h;have J:=lJ 64 s i;have E:=lJ 64 s (i+1);have F:=mY 64 s i (i+1) (by omega) h;have M:wrap64 ((dep 64 s i:Int)-(s:Int))=(dep 64 s i:Int)-(s:Int):=by unfold wrap64;omega
  rw[M];show IntKind.i64.wrap ((BitVec.ofInt 64 ((dep 64 s i:Int)-(s:Int)) &&& BitVec.ofInt 64 (s:Int)).toNat:Nat)=_;rw[BitVec.toNat_and,BitVec.toNat_ofInt,BitVec.toNat_ofInt];have L:(((dep 64 s i:Int)-(s:Int))%((2^64:Nat):Int)).toNat=dep 64 s i+2^64-s:=by rw[<-Int.add_emod_right];rw[Int.emod_eq_of_lt (by omega) (by omega)];omega
  have e2:((s:Int)%((2^64:Nat):Int)).toNat=s:=by omega
  rw[L,e2,h1];exact aV (by omega)
def JF(s:Nat)(F:s<2^62)(hN:2^pop 64 s<=8192):PC prog 150 [int s,.v (.func (.func 151) #[] #[])] (.tup [.sl ((nT s).map fun x:Nat=>aP (x:Int)),int 0]):=by
 have E:nT s≠[]:=by intro h;have:=congrArg List.length h;simp[nT]at this
 refine PC.libRow (a:=[.int .i64 s,.func (.func 151) #[] #[]]) (t:=3) E fun w=>?_
 have u:(nT s).length=2^pop 64 s:=by simp[nT]
 rw[u];exact(callsIn_wide (n:=3)).1 (Tz Fence.wide 3 trivial trivial trivial trivial rfl (by omega) s _ _ (Q7 F) hN w)
def Ow(s:Nat)(E:s<2^62)(hN:2^pop 64 s<=8192):PC prog 87 [int s] (.tup [.sl ((nT s).map fun x:Nat=>aP (x:Int)),int 0]):=by refine pcd func87 rfl rfl ?_;simp only[go_sem];refine aA (fun u=>by have:=of_decide_eq_true u;omega) (fun u=>?_);simp only[go_sem];refine aN (JF s E hN) ?_;simp only[go_sem];exact .refl _
end Nu
namespace Nu
open Go.Proofs.Tryz
open Go.Nu Go.Sb
def F7:∀k n:Nat,pU k n=pop k n
 | 0,_=>rfl
 | k+1,n=>by rw[pU,pop,F7 k]
def Va{s:Nat}(u:s<2^63):pop 64 s=pU 63 s:=by rw[F7,vT u]
def P1{s:Nat}(u:s<2^63):(jO (s:Int)).length=pop 64 s:=by rw[Va u];exact AT s 63 (Xad _)
def rM:Nat->Nat->Nat->List Nat
 | 0,_,_=>[]
 | w+1,s,o=>if s%2=1 then o::rM w (s/2) (o+1)else rM w (s/2) (o+1)
def Lx:∀(w s o:Nat),rM w s o=((List.range w).filter fun i=>s.testBit i).map (·+o)
 | 0,_,_=>rfl
 | w+1,s,o=>by
  have ih:=Lx w (s/2) (o+1);have h1:(List.filter (fun i=>s.testBit i) ((List.range w).map Nat.succ)).map (·+o)=rM w (s/2) (o+1):=by
   rw[ih,List.filter_map,List.map_map];have:(fun i=>s.testBit i) ∘ Nat.succ=fun i=>(s/2).testBit i:=by funext i;exact Nat.testBit_succ s i
   rw[this];refine List.map_congr_left fun i _=>?_
   show i+1+o=i+(o+1);omega
  rw[rM,List.range_succ_eq_map,List.filter_cons,<-h1];have h0:s.testBit 0=decide (s%2=1):=Nat.testBit_zero s;rw[h0];by_cases h:s%2=1
  ·rw[if_pos h,if_pos (by simpa using h),Xar,Nat.zero_add]
  ·rw[if_neg h,if_neg (by simpa using h)]
def xN{s:Nat}:jO (s:Int)=(rM 63 s 0).map fun i:Nat=>(i:Int):=by
 unfold jO sG;rw[Lx,List.map_map];have:List.filter (fun i:Nat=>kM (s:Int) (i:Int)) (List.range 63)=List.filter (fun i=>s.testBit i) (List.range 63):=List.filter_congr fun i hi=>sN (by have:=Xbi.1 hi;omega)
 rw[this];refine List.map_congr_left fun i _=>?_
 show(i:Int)=((i+0:Nat):Int);rw[Nat.add_zero]
def spr:List Nat->Nat->Nat
 | [],_=>0
 | x::r,p=>(if p%2=1 then 2^x else 0)+spr r (p/2)
def Gg:∀(l:List Nat) (x p:Nat),spr (l++[x]) p=spr l p+(if(p/2^l.length)%2=1 then 2^x else 0)
 | [],x,p=>by simp[spr]
 | y::l,x,p=>by rw[Xaw,spr,Gg l x (p/2),spr,Nat.div_div_eq_div_mul,Xae,show 2*2^l.length=2^(l.length+1)by rw[Xbl,Nat.mul_comm],Xbn]
def FC:∀(w s o p:Nat),spr (rM w s o) p=2^o*dep w s p
 | 0,s,o,p=>by simp[rM,spr,dep]
 | w+1,s,o,p=>by
  rw[rM,dep];split
  ·rw[spr,FC w (s/2) (o+1) (p/2),Xbl];rcases(by omega:p%2=0\/p%2=1)with e|e <;> rw[e]
   ·simp[Nat.mul_assoc]
   ·simp[Nat.mul_add,Nat.mul_assoc,Nat.add_comm]
  ·rw[FC w (s/2) (o+1) p,Xbl,Nat.mul_assoc]
def Pf{w s p:Nat}(u:s<2^w)(E:p<2^pop w s):∀w',w<=w'->dep w' s p=dep w s p:=by
 induction w generalizing s p with
 | zero=>
  intro w' _;have:s=0:=by simp at u;omega
  subst this;have h1:=lJ w' 0 p;have F:=lJ 0 0 p;omega
 | succ w ih=>
  intro w' J;obtain⟨v,rfl⟩:∃v,w'=v+1:=⟨w'-1,by omega⟩;rw[Xbl]at u;unfold dep;split
  ·next h=>rw[ih (by omega) (Fp E h w rfl) v (by omega)]
  ·next h=>rw[ih (by omega) (BT E h) v (by omega)]
def Tm{s p:Nat}(u:s<2^63)(E:p<2^pop 64 s):spr (rM 63 s 0) p=dep 64 s p:=by rw[FC,Nat.pow_zero,Nat.one_mul];refine(Pf u ?_ 64 (by omega)).symm;rw[vT u]at E;exact E
def L9:∀(w s o:Nat),(rM w s o).Pairwise (·<·)/\∀x∈rM w s o,o<=x/\x<o+w
 | 0,_,_=>by simp[rM]
 | w+1,s,o=>by
  have ih:=L9 w (s/2) (o+1);rw[rM];split
  ·refine⟨List.pairwise_cons.2 ⟨fun x u=>by have:=ih.2 x u;omega,ih.1⟩,fun x u=>?_⟩;rcases Xao.1 u with rfl|u
   ·omega
   ·have:=ih.2 x u;omega
  ·exact⟨ih.1,fun x u=>by have:=ih.2 x u;omega⟩
def UM:∀(l:List Nat) (x p:Nat),(l++[x]).Pairwise (·<·)->spr l p<2^x
 | [],x,p,_=>Nat.two_pow_pos x
 | y::l,x,p,h=>by
   rw[Xaw]at h;have L:=List.pairwise_cons.1 h;have E:y<x:=L.1 x (by simp)
   -- all further members are multiples of 2 ^ (y + 1)
   have:∀(l:List Nat) (p x y:Nat),(l++[x]).Pairwise (·<·)->(∀z∈l,y<z)->y<x->spr l p+2^(y+1)<=2^x:=by
     intro l;induction l with
     | nil=>intro p x y _ _ E;simp only[spr,Nat.zero_add];exact Xam (by decide) E
     | cons z l ih=>intro p x y h F E;rw[Xaw]at h;have J:=List.pairwise_cons.1 h;have O:=ih (p/2) x z J.2 (fun u M=>J.1 u (by simp[M])) (J.1 x (by simp));have i2:2^(y+1)<=2^z:=Xam (by decide) (F z (by simp));rw[Xbl]at O;rw[spr];split <;> omega
   have Z:=this l (p/2) x y L.2 (fun z F=>L.1 z (by simp[F])) E;have h4:=Nat.two_pow_pos y;rw[Xbl]at Z;rw[spr];split <;> omega
def OX(l:List Nat)(p:Nat)(hl:l.length<=62)(hu:l.Pairwise (·<·))(hm:∀x∈l,x<=61)(hp:p<2^62):PC prog 147 [.sl (l.map fun i:Nat=>aP (i:Int)),int p] (int (spr l p:Nat)):=by
 refine pcd func147 rfl rfl ?_;simp only[go_sem];refine⟨fun ρ H=>∃(k:Nat),k<=l.length/\ρ 1=int p/\ρ 8=.sl (l.map fun i:Nat=>aP (i:Int))/\ρ 9=int (l.length:Nat)/\ρ 10=int k/\ρ 5=int (spr (l.take k) p:Nat),fun ρ _=>l.length-aW (ρ 10),⟨0,Xab _,by simp only[go_sem],by simp only[go_sem],by simp only[go_sem,Xaa],(by simp only[go_sem];rfl),by simp only[go_sem];rfl⟩,?_⟩;rintro ρ H ⟨k,hk,M,e8,Z,E,e5⟩;simp only[go_sem,M,e8,Z,E,e5];refine aA (fun u=>?_) (fun L=>?_)
 ·have u:=ltB u;obtain⟨x,hx⟩:=bG u;have b1:=inB u;have O:=hm x (Xaf hx);have aa:(l.take k++[x]).Pairwise (·<·):=by rw[<-bK hx];exact hu.sublist (List.take_sublist _ _)
  have ab:=UM (l.take k) x p aa;have ac:2^x<=2^61:=Xam (by decide) O;have F:=Gg (l.take k) x p;rw[<-bK hx,show(l.take k).length=k by rw[Xaj];omega]at F;have q1:=BD (x:=(p:Int)) (i:=k) (by omega);have h3:((2:Int)^k)=((2^k:Nat):Int):=by norm_cast
  rw[h3]at q1;have q2:nK .and .i64 ((p:Int)/((2^k:Nat):Int)) 1=((p/2^k%2:Nat):Int):=RY _;simp only[go_sem,M,e8,Z,E,e5,aJ (f:=fun i:Nat=>aP (i:Int)) hx,b1,q1,q2];refine aA (fun J=>?_) (fun J=>?_)
  ·have J:p/2^k%2=1:=by have:=eq_of_beq J;omega
   have q3:=KG (i:=x) (by omega);have q4:=PB (a:=spr (l.take k) p) (b:=2^x) (by omega) (by omega);rw[Qh ab]at q4;rw[if_pos J]at F;simp only[go_sem,M,e8,Z,E,e5,q3,q4,aY k];exact⟨by omega,⟨k+1,u,rfl,by rw[F]⟩,by simp only[aF];omega⟩
  ·have J:¬p/2^k%2=1:=fun h=>by rw[h]at J;cases J
   rw[if_neg J,Nat.add_zero]at F;simp only[go_sem,M,e8,Z,E,e5,aY k];exact⟨⟨k+1,u,rfl,by rw[F];rfl⟩,by simp only[aF];omega⟩
 ·have L:=geB hk L;subst L;rw[Xai]at e5;simp only[go_sem,M,e8,Z,E,e5];exact .refl _
def g3:List Nat:=(List.range 1024).filter fun p=>pop 10 p == 3
def VF(k:Nat):Bool:=
 let p:Int:=((g3.getD k 0:Nat):Int)
 let lo:=nK .and .i64 p (IntKind.i64.wrap (0-p))
 let up:=IntKind.i64.wrap (p+lo)
 let q:=IntKind.i64.wrap ((nK .xor .i64 p up).tdiv lo)
 (nK .or .i64 up (shV .shr .i64 q 2) == ((g3.getD (k+1) 0:Nat):Int))&& !(lo == 0)
def Ci(n:Nat):Nat:=(g3.filter fun p=>decide (p<2^n)).length
def VC(n k:Nat):Bool:=
 let p:Int:=((g3.getD k 0:Nat):Int)
 let lo:=nK .and .i64 p (IntKind.i64.wrap (0-p))
 decide (p<((2^n:Nat):Int))&&((lo == 0||p == IntKind.i64.wrap (((2^n:Nat):Int)-lo)) == decide (k+1=Ci n))
def Ey:g3.length=120:=by decide +kernel
def RR:((List.range 119).all VF)=true:=by decide +kernel
def LD:((List.range 11).all fun n=>(List.range (Ci n)).all (VC n))=true:=by decide +kernel
def RD:((List.range 11).all fun n=>decide (Ci n<=120)&&(decide (n<3)||decide (0<Ci n))&&(decide (3<=n)||decide (Ci n=0))&&(g3.take (Ci n) == (List.range (2^n)).filter fun p=>pop 10 p == 3))=true:=by decide +kernel
def QW{s:Nat}(u:s<2^63):(rM 63 s 0).length=pop 64 s:=by rw[<-P1 u,xN,Xaa]
def oJ(s:Nat):List Nat:=((List.range (2^pop 64 s)).filter fun p=>pop 10 p == 3).map (dep 64 s)
def SZ(s:Nat)(hs:s<2^10):PC prog 85 [int s,int 3] (.tup [.sl ((oJ s).map fun x:Nat=>aP (x:Int)),int 0]):=by
 have aa:s<2^63:=by omega
 have hl:=QW aa;obtain⟨ao,a5⟩:=L9 63 s 0;have ax:pop 64 s<=10:=by
  have h1:=FG 10 s;have:∀k,10<=k->pop k s=pop 10 s:=by
   intro k hk;induction k with
   | zero=>omega
   | succ k ih=>
    rcases(by omega:10<=k\/k=9)with h|h
    ·rw[vT (Xaz hs (Xam (by decide) h)),ih h]
    ·rw[h]
  rw[this 64 (by omega)];exact h1
 have ah:∀x∈rM 63 s 0,x<=61:=by
  intro x hx;have h1:(x:Int)∈jO (s:Int):=by rw[xN];exact List.mem_map_of_mem hx
  have:=E1 (n:=10) hs (by omega) _ h1;omega
 have O:=Xbc.1 RD (pop 64 s) (Xbi.2 (by omega));simp only[Xav,Bool.or_eq_true,decide_eq_true_eq,beq_iff_eq]at O;obtain⟨⟨⟨c1,c2⟩,c3⟩,c4⟩:=O;have L:oJ s=(g3.take (Ci (pop 64 s))).map (spr (rM 63 s 0)):=by
  unfold oJ;rw[c4];refine List.map_congr_left fun p hp=>(Tm aa ?_).symm
  exact Xbi.1 (List.mem_filter.1 hp).1
 have au:(jO (s:Int)).map aP=(rM 63 s 0).map fun i:Nat=>aP (i:Int):=by rw[xN,List.map_map];rfl
 rw[L];have af:=iG (s:Int);rw[au]at af;generalize rM 63 s 0=l at *;generalize pop 64 s=n at *;refine pcb (fun t=>t == 7) func85 rfl rfl ?_;simp only[go_sem];refine aN af ?_;simp only[go_sem,Xaa,hl];refine aA (fun F=>?_) (fun F=>?_)
 ·have F:n<3:=by simp at F;omega
  rw[c3.resolve_left (by omega)];simp only[go_sem];exact .refl _
 have a4:3<=n:=by simp at F;omega
 have aj:=c2.resolve_left (by omega);have q1:=KG (i:=n) (by omega);have q2:shV .shl .i64 1 3=8:=rfl;have q3:IntKind.i64.wrap (8-1)=7:=rfl;simp only[go_sem];refine aL fun j hj=>?_
 simp only[go_sem,Xaa,hl,q1,q2,q3];refine⟨by omega,by decide,?_⟩;have aw:=LD;have g7:g3.getD 0 0=7:=by decide +kernel
 have al:decide (((n:Nat):Int)>62)=false:=by simp;omega
 refine⟨fun ρ H=>∃(k j:Nat),k<Ci n/\ρ 6=.sl (l.map fun i:Nat=>aP (i:Int))/\ρ 8=int (2^n:Nat)/\ρ 7=.os j/\ρ 9=int (g3.getD k 0:Nat)/\H j=some (⟨3,1,((g3.take k).map (spr l)).map fun x:Nat=>aP (x:Int)⟩:Row),fun ρ _=>1024-aW (ρ 9),
  ⟨0,j,aj,by simp only[go_sem],by simp only[go_sem],by simp only[go_sem],by simp only[go_sem,g7];rfl,aB _ _ _⟩,?_⟩
 clear hj j;rintro ρ H ⟨k,j,hk,e6,Z,M,J,R⟩;have E:=Xbc.1 (Xbc.1 LD n (Xbi.2 (by omega))) k (Xbi.2 hk);obtain⟨p,hp⟩:=bG (l:=g3) (k:=k) (by rw[Ey];omega);have ae:g3.getD k 0=p:=by rw[List.getD,hp];rfl
 have an:p<1024:=Xbi.1 (List.mem_filter.1 (Xaf hp)).1;rw[ae]at J;unfold VC at E;rw[ae]at E;simp only[Xav,decide_eq_true_eq,beq_iff_eq]at E;obtain⟨ap,u⟩:=E;have ai:decide ((p:Int)<((2^n:Nat):Int))=true:=by simpa using ap
 have a0:((g3.take k).map (spr l)).length=k:=by rw[Xaa,Xaj,Ey];omega
 have ac:((k:Int) == 8192)=false:=by rw[beq_eq_false_iff_ne];omega
 obtain⟨lo,hlo⟩:∃lo,nK .and .i64 (p:Int) (IntKind.i64.wrap (0-(p:Int)))=lo:=⟨_,rfl⟩;rw[hlo]at u;simp only[go_sem,e6,Z,M,J,Xaa,hl,al,ai];refine aA (fun _=>?_) (fun F=>by cases F);simp only[go_sem,e6,Z,M,J,R,Xaa,Xaj,Ey,show min k 120=k by omega,ac];refine aA (fun F=>by cases F) (fun _=>?_);simp only[go_sem,e6,Z,M,J];refine aN (OX l p (by omega) ao ah (by omega)) ?_;simp only[go_sem,e6,Z,M,J];refine cD R ⟨rfl,rfl⟩ ⟨rfl,trivial⟩ (by simp;omega) (fun j' az=>?_);simp only[go_sem,e6,Z,M,J,hlo];have R':aE (aE H j none) j' (some (⟨3,1,(((g3.take k).map (spr l)).map fun x:Nat=>aP (x:Int))++[[int (spr l p:Nat)]]⟩:Row)) j'=some (⟨3,1,((g3.take (k+1)).map (spr l)).map fun x:Nat=>aP (x:Int)⟩:Row):=by rw[aB,bK hp];simp only[Xak,Xar,Xay];rfl
 refine aA (fun F=>?_) (fun F=>?_)
 ·have ab : k + 1 = Ci n := by rw[F]at u;exact of_decide_eq_true u.symm
  simp only[go_sem,e6,Z,M,J];rw[<-ab];exact .tup _ _ (.cons _ _ _ _ (.row _ _ _ R' (ConvE.refl _)) (.cons _ _ _ _ (.refl _) .nil))
 ·have ab : k + 1 < Ci n := by rw[F]at u;have:=of_decide_eq_false u.symm;omega
  have hg:=Xbc.1 RR k (Xbi.2 (by omega));unfold VF at hg;rw[ae]at hg;simp only[hlo,Xav,beq_iff_eq,Xbs]at hg;have am:lo≠0:=by have:=hg.2;simpa using this
  simp only[go_sem,e6,Z,M,J];refine⟨am,by decide,?_⟩;simp only[go_sem,e6,Z,M,J,hg.1];obtain⟨p',ak⟩:=bG (l:=g3) (k:=k+1) (by rw[Ey];omega);have ag:g3.getD (k+1) 0=p':=by rw[List.getD,ak];rfl
  have ay:p<p':=by have av:g3.Pairwise (·<·):=List.Pairwise.filter _ List.pairwise_lt_range;obtain⟨h1,aq⟩:=List.getElem?_eq_some_iff.1 hp;obtain⟨h2,ar⟩:=List.getElem?_eq_some_iff.1 ak;have:=List.pairwise_iff_getElem.1 av k (k+1) h1 h2 (by omega);rw[aq,ar]at this;exact this
  exact⟨⟨k+1,j',ab,rfl,rfl,R'⟩,by simp only[aF,ag];omega⟩
end Nu
end Go.Proofs.YtmhpdppobocokaaGreatDoor
