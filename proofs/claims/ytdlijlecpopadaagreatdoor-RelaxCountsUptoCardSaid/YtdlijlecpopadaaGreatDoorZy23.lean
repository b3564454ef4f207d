/- Texts joined by a program: Read, Bridge, MvZ, SqA, SqF. -/
import Derived.Test.YtdlijlecpopadaaGreatDoorRows
import Derived.Carry
import Derived.OpenShut
import Derived.JoinedCond
import Derived.WalkKit
import Derived.ProofKit
import Derived.WideKeyArgs
import Derived.Test.YtdlijlecpopadaaGreatDoorZy10
import Derived.Test.YtdlijlecpopadaaGreatDoorZy22

section
set_option linter.unusedSimpArgs false
set_option linter.unusedVariables false
namespace Go.Aw.D
open Go.Aw Go.RowKit
set_option maxRecDepth 100000
def Sw(w:World):Sg:=⟨fun k=>k<w.heap.size,fun k=>k<w.heap.size,fun _=>.slice none 0 0,fun _=>1,0⟩
def He(w:World):Prop:=∀t∈P3,qK w t.1=some t.2
theorem KN{w:World}{g:Nat}{cs:Array Value}(h:qK w g=some cs):g<w.heap.size:=by
 unfold qK at h;split at h
 · rename_i h1;exact(Array.getElem?_eq_some_iff.1 h1).1
 · cases h
theorem acX(w:World)(ht:He w):St (Sw w) w bU:=⟨fun _ h=>h,fun _ h=>h,fun k r hk=>by simp[bU]at hk,fun k r hk=>by simp[bU]at hk,fun k k' r r' hk=>by simp[bU]at hk,fun t h=>⟨KN (ht t h),ht t h⟩⟩
def kW(_:Nat)(x:Int):Prop:= -9223372036854775808≤x∧x≤9223372036854775807
def Yi(_:Nat)(_:Bool):Prop:=True
def P4(n:Nat)(s:ByteArray):Prop:=s.size≤n
def bL{α:Type}(b:Nat→α→Prop)(n:Nat)(l:List α):Prop:=l.length≤n∧∀x∈l,b n x
def Rd{H:Type}(e:TypeId×Value→H)(B:DataW H→Nat)(P:Program)(w:World)(t:TypeId){α:Type}(enc:α→List AV)(b:Nat→α→Prop):Prop:=
 ∀fuel cs y,DataW.trod e P w 0 (fun _=>true) true fuel t cs=some y→∃x:α,(aZ (Sw w) w (enc x) cs∧∀u∈cs,u.oneCell'=true)∧∀n,B y.1≤n→b n x
section
variable{H:Type}{e:TypeId×Value→H}{P:Program}{w:World}{t:TypeId}
abbrev BK(H:Type):DataW H→Nat:=Go.Proofs.YtdlijlecpopadaaGreatDoor.Rows.uptoBulk
theorem fK(ht:P.underlying t=some (.int .i64)):Rd e (BK H) P w t aO kW:=by
 intro fuel cs y h;obtain⟨n,rfl,_,hw⟩:=DataW.trod_int ht h;refine⟨n,⟨by simp only[aO,aZ];exact⟨_,_,rfl,by simp only[rep],rfl⟩,by simp[Value.oneCell']⟩,fun _ _=>bounds_i64 hw⟩
theorem Wl(ht:P.underlying t=some .bool):Rd e (BK H) P w t Cj Yi:=by
 intro fuel cs y h;obtain⟨n,rfl,_⟩:=DataW.trod_bool ht h;refine⟨n,⟨by simp only[Cj,aZ];exact⟨_,_,rfl,by simp only[rep],rfl⟩,by simp[Value.oneCell']⟩,fun _ _=>trivial⟩
theorem Mm(ht:P.underlying t=some .string):Rd e (BK H) P w t fL P4:=by
 intro fuel cs y h;obtain⟨s,rfl,rfl,_⟩:=DataW.trod_string ht h;refine⟨s,⟨by simp only[fL,aZ];exact⟨_,_,rfl,by simp only[rep],rfl⟩,by simp[Value.oneCell']⟩,fun n hn=>?_⟩;simp only[BK,Go.Proofs.YtdlijlecpopadaaGreatDoor.Rows.uptoBulk,Array.length_toList]at hn;have:s.size=s.data.size:=rfl;simp only[P4];omega
theorem EL{d:DataW H}{l:List (DataW H)}(h:d∈l):BK H d≤Go.Proofs.YtdlijlecpopadaaGreatDoor.Rows.uptoBulkAll l:=by
 induction l with
 | nil=>cases h
 | cons x r ih=>
   simp only[Go.Proofs.YtdlijlecpopadaaGreatDoor.Rows.uptoBulkAll];cases List.mem_cons.1 h with
   | inl e=>subst e;simp only[BK];omega
   | inr e=>have:=ih e;omega
theorem Sj(d:DataW H):1≤BK H d:=by
 cases d with
 | lit l=>cases l <;> simp[BK,Go.Proofs.YtdlijlecpopadaaGreatDoor.Rows.uptoBulk]
 | nil=>simp[BK,Go.Proofs.YtdlijlecpopadaaGreatDoor.Rows.uptoBulk]
 | ptr d=>simp[BK,Go.Proofs.YtdlijlecpopadaaGreatDoor.Rows.uptoBulk]
 | slice elems spare=>simp[BK,Go.Proofs.YtdlijlecpopadaaGreatDoor.Rows.uptoBulk]
 | agg parts=>simp[BK,Go.Proofs.YtdlijlecpopadaaGreatDoor.Rows.uptoBulk]
 | iface t d=>simp[BK,Go.Proofs.YtdlijlecpopadaaGreatDoor.Rows.uptoBulk]
 | map entries=>simp[BK,Go.Proofs.YtdlijlecpopadaaGreatDoor.Rows.uptoBulk]
 | held h=>simp[BK,Go.Proofs.YtdlijlecpopadaaGreatDoor.Rows.uptoBulk]
theorem I1(l:List (DataW H)):l.length≤Go.Proofs.YtdlijlecpopadaaGreatDoor.Rows.uptoBulkAll l:=by
 induction l with
 | nil=>simp[Go.Proofs.YtdlijlecpopadaaGreatDoor.Rows.uptoBulkAll]
 | cons x r ih=>have:=Sj x;simp only[Go.Proofs.YtdlijlecpopadaaGreatDoor.Rows.uptoBulkAll,List.length_cons,BK]at *;omega
theorem Kc{α:Type}(n:Nat)(p:Nat→α→Prop)(h:∀i,i<n→∃x,p i x):∃l:List α,l.length=n∧∀i x,l[i]?=some x→p i x:=by
 induction n with
 | zero=>exact⟨[],rfl,by simp⟩
 | succ n ih=>
   obtain⟨l,hl,hp⟩:=ih fun i hi=>h i (by omega)
   obtain⟨x,hx⟩:=h n (by omega);refine⟨l++[x],by simp[hl],fun i y hy=>?_⟩;rcases Nat.lt_or_ge i n with hi|hi
   · rw[List.getElem?_append_left (by omega)]at hy;exact hp i y hy
   · rw[List.getElem?_append_right (by omega)]at hy
     have:i-l.length=0:=by
       rcases Nat.eq_zero_or_pos (i-l.length)with h0|h0
       · exact h0
       · rw[List.getElem?_eq_none (by simp;omega)]at hy;simp at hy
     rw[this]at hy;have hi':i=n:=by omega
     subst hi';simp at hy;subst hy;exact hx
theorem yW{S:Sg}{b sz:Nat}{α:Type}{enc:α→List AV}(hlen:∀x,(enc x).length=sz):∀(l:List α) (o:Nat),(∀i x,l[i]?=some x→cQ S w b (o+i*sz) (enc x))→gT S w b sz o (l.map enc)
 | [],_,_=>by simp[gT]
 | x::r,o,h=>by
   simp only[List.map_cons,gT];refine⟨hlen x,by simpa using h 0 x rfl,yW hlen r (o+sz) fun i y hy=>?_⟩;have:=h (i+1) y (by simpa using hy)
   rwa [show o+(i+1)*sz=o+sz+i*sz by rw[Nat.add_mul];omega]at this
theorem Bh{a:Addr}{n:Nat}{cs:List Value}(h:w.cells? 0 a n=some cs):cs.length=n∧∀j,j<n→w.cell? (a.add j)=cs[j]?:=by
 unfold World.cells? at h;rw[if_pos (Nat.zero_le _)]at h;have hl:=mapM_some_length h;exact⟨by simpa using hl,fun j hj=>mapM_some_get h j j (by simp[hj])⟩
theorem qO{α : Type}{enc : α → List AV}{b : Nat → α → Prop}{et : TypeId}{sz : Nat}(ht : P.underlying t = some (.slice et))(hc : P.cellsOf et = sz)(hpos : 0 < sz)(hlen : ∀ x, (enc x).length = sz)(hr : Rd e (BK H) P w et enc b):
   Rd e (BK H) P w t (fun l:List α=>[.sl (l.map enc)]) (bL b):=by
 intro fuel cs y h;rcases DataW.trod_slice ht h with⟨rfl,rfl⟩|⟨a,len,cap,elems,rest,n,rfl,rfl,rfl,_,hlc,hcap,hel,hget,hsp,_⟩
 · refine⟨[],⟨?_,by simp[Value.oneCell']⟩,fun n _=>⟨by simp,by simp⟩⟩
   simp only[aZ,rep,List.map_nil];exact⟨_,_,rfl,⟨none,0,0,rfl,rfl,Nat.le_refl _,Nat.zero_le _,by simp⟩,rfl⟩
 · have hp : ∀ i, i < len → ∃ x : α, ∃ z cs', elems[i]? = some z ∧ w.cells? 0 (a.add (i * sz)) sz = some cs' ∧ (aZ (Sw w) w (enc x) cs' ∧ ∀ u ∈ cs', u.oneCell' = true) ∧ ∀ n, BK H z.1 ≤ n → b n x := fun i hi => by
     have hg:=hget i hi;rw[List.getElem?_eq_getElem (by omega),hc,Option.bind_eq_some_iff]at hg;obtain⟨cs',h1,h2⟩:=hg;obtain⟨x,hx,hb⟩:=hr _ _ _ h2;exact⟨x,_,cs',List.getElem?_eq_getElem (by omega),h1,hx,hb⟩
   obtain⟨l,hl,hpl⟩:=Kc len _ hp;refine⟨l,⟨?_,by simp[Value.oneCell']⟩,fun m hm=>⟨?_,fun x hx=>?_⟩⟩
   · simp only[aZ]
     refine⟨_,_,rfl,?_,rfl⟩;simp only[rep];refine⟨some a,len,cap,rfl,by simp[hl],hlc,hcap,?_⟩;rcases Nat.eq_zero_or_pos len with h0|h0
     · left;rw[List.eq_nil_of_length_eq_zero (hl.trans h0)];rfl
     · right
       have h00:=hp 0 h0;obtain⟨_,_,cs0,_,hc0,_⟩:=h00;have q:=(Bh hc0).2 0 hpos;have hlen0:=(Bh hc0).1;rw[List.getElem?_eq_getElem (by omega)]at q;simp only[Nat.zero_mul,Addr.add,if_true]at q;have hspot:a.spot=none∧a.block<w.heap.size:=by
         unfold World.cell? at q;split at q
         · rename_i c _ _ hb
           split at q
           · simp at q
           · rename_i hs
             refine⟨by simpa using hs,?_⟩;rcases Nat.lt_or_ge a.block w.heap.size with h|h
             · exact h
             · rw[Array.getElem?_eq_none h]at hb;simp at hb
         · simp at q
       obtain⟨ab,ao,asp⟩:=a;obtain⟨hs,hlt⟩:=hspot;simp only at hs hlt;subst hs;refine⟨ab,ao,sz,rfl,hlt,hpos,yW hlen l ao fun i x hx=>?_⟩;obtain⟨z,cs',_,hcs,⟨h1,h2⟩,_⟩:=hpl i x hx;refine iU _ cs' _ h1 h2 fun j u hj=>?_
       obtain⟨e1,e2⟩:=Bh hcs;have hj':j<sz:=by
         rcases Nat.lt_or_ge j sz with h|h
         · exact h
         · rw[List.getElem?_eq_none (by omega)]at hj;simp at hj
       have:=e2 j hj';rw[hj,Addr.add_lit,Addr.add_lit]at this;exact this
   · rw[hl,←hel]
     have h1:=I1 (elems.map (·.1));simp only[BK,Go.Proofs.YtdlijlecpopadaaGreatDoor.Rows.uptoBulk,List.length_map]at hm h1;omega
   · obtain⟨i,hi⟩:=List.mem_iff_getElem?.1 hx
     obtain⟨z,cs',hz,_,_,hb⟩:=hpl i x hi;refine hb m ?_;have h1:=EL (List.mem_map_of_mem (f:=(·.1)) (List.mem_of_getElem? hz));simp only[BK,Go.Proofs.YtdlijlecpopadaaGreatDoor.Rows.uptoBulk]at hm h1 ⊢;omega
theorem fld{fuel o m:Nat}{cs:List Value}{z:DataW H×List MemPlace}(hc:P.cellsOf t=m)(h:DataW.trod e P w 0 (fun _=>true) true fuel t ((cs.drop o).take (P.cellsOf t))=some z):DataW.trod e P w 0 (fun _=>true) true fuel t ((cs.drop o).take m)=some z:=hc▸h
theorem bG{S:Sg}{a b:List AV}{cs:List Value}{o m:Nat}(h:aZ S w a ((cs.drop o).take m))(h':aZ S w b (cs.drop (o+m))):aZ S w (a++b) (cs.drop o):=by
 have:=dM a b _ _ h h'
 rwa [←List.drop_drop,List.take_append_drop]at this
theorem oS{S:Sg}{cs:List Value}{o:Nat}(h:cs.length=o):aZ S w [] (cs.drop o):=by
 rw[List.drop_eq_nil_of_le (by omega)];simp[aZ]
theorem bQ{cs:List Value}{o m:Nat}(h:∀u∈(cs.drop o).take m,u.oneCell'=true)(h':∀u∈cs.drop (o+m),u.oneCell'=true):∀u∈cs.drop o,u.oneCell'=true:=by
 intro u hu;rw[←List.take_append_drop m (cs.drop o),List.drop_drop]at hu;rcases List.mem_append.1 hu with hu|hu
 · exact h u hu
 · exact h' u hu
theorem qX{cs:List Value}{o:Nat}(h:cs.length=o):∀u∈cs.drop o,u.oneCell'=true:=by
 rw[List.drop_eq_nil_of_le (by omega)];simp
theorem aY{xs:List (DataW H×List MemPlace)}{i:Nat}{z:DataW H×List MemPlace}(hz:xs[i]?=some z){n:Nat}(h:BK H (.agg (xs.map (·.1)))≤n):BK H z.1≤n:=by
 have h1:=EL (List.mem_map_of_mem (f:=(·.1)) (List.mem_of_getElem? hz));simp only[BK,Go.Proofs.YtdlijlecpopadaaGreatDoor.Rows.uptoBulk]at h h1 ⊢;omega
theorem bP{α:Type}{xs:List α}{n i:Nat}(h:xs.length=n)(hi:i<n):∃z,xs[i]?=some z:=⟨xs[i],List.getElem?_eq_getElem (by omega)⟩
end
section
open Go.Proofs Go.Proofs.YtdlijlecpopadaaGreatDoor
variable{H:Type}{e:TypeId×Value→H}{w:World}
theorem WK:Rd e (BK H) Tryz.prog w 22 (fun l:List ByteArray=>[.sl (l.map fL)]) (bL P4):=qO (sz:=1) Tryz.underlying22 (by kernel_rfl) (by omega) (fun _=>rfl) (Mm Tryz.underlying9)
def It(n:Nat)(x:Point):Prop:=kW n x.t∧kW n x.a
theorem TI:Rd e (BK H) Tryz.prog w 136 bJ It:=by
 intro fuel cs y h;obtain⟨xs,n,rfl,rfl,hl,hxl,hf⟩:=DataW.trod_struct Tryz.underlying136 h;have hxl:xs.length=2:=hxl;have hl:cs.length=2:=hl.trans (by kernel_rfl);obtain⟨z0,hz0⟩:=bP hxl (show 0<2 by omega);obtain⟨x0,⟨r0,o0⟩,b0⟩:=(fK Tryz.underlying3:Rd e (BK H) Tryz.prog w 3 _ _) n ((cs.drop 0).take 1) z0 (fld (t:=3) (o:=0) (m:=1) (by kernel_rfl) ((hf 0 _ rfl).trans hz0));obtain⟨z1,hz1⟩:=bP hxl (show 1<2 by omega);obtain⟨x1,⟨r1,o1⟩,b1⟩:=(fK Tryz.underlying3:Rd e (BK H) Tryz.prog w 3 _ _) n ((cs.drop 1).take 1) z1 (fld (t:=3) (o:=1) (m:=1) (by kernel_rfl) ((hf 1 _ rfl).trans hz1));refine⟨⟨x0,x1⟩,⟨?_,?_⟩,fun m hm=>⟨b0 m (aY hz0 hm),b1 m (aY hz1 hm)⟩⟩
 · have:=bG (o:=0) (m:=1) r0 (bG (o:=1) (m:=1) r1 (oS (by omega)))
   rw[List.drop_zero]at this;exact this
 · have:=bQ (o:=0) (m:=1) o0 (bQ (o:=1) (m:=1) o1 (qX (by omega)))
   rw[List.drop_zero]at this;exact this
theorem Fu:Rd e (BK H) Tryz.prog w 137 (fun l:List Point=>[.sl (l.map bJ)]) (bL It):=qO (sz:=2) Tryz.underlying137 (by kernel_rfl) (by omega) (fun _=>rfl) (TI)
def Zg(n:Nat)(x:Arc):Prop:=kW n x.src∧kW n x.dst∧kW n x.profile∧kW n x.miles∧(bL It) n x.travel∧(bL It) n x.slow
theorem ZB:Rd e (BK H) Tryz.prog w 139 eH Zg:=by
 intro fuel cs y h;obtain⟨xs,n,rfl,rfl,hl,hxl,hf⟩:=DataW.trod_struct Tryz.underlying139 h;have hxl:xs.length=6:=hxl;have hl:cs.length=6:=hl.trans (by kernel_rfl);obtain⟨z0,hz0⟩:=bP hxl (show 0<6 by omega);obtain⟨x0,⟨r0,o0⟩,b0⟩:=(fK Tryz.underlying3:Rd e (BK H) Tryz.prog w 3 _ _) n ((cs.drop 0).take 1) z0 (fld (t:=3) (o:=0) (m:=1) (by kernel_rfl) ((hf 0 _ rfl).trans hz0));obtain⟨z1,hz1⟩:=bP hxl (show 1<6 by omega);obtain⟨x1,⟨r1,o1⟩,b1⟩:=(fK Tryz.underlying3:Rd e (BK H) Tryz.prog w 3 _ _) n ((cs.drop 1).take 1) z1 (fld (t:=3) (o:=1) (m:=1) (by kernel_rfl) ((hf 1 _ rfl).trans hz1));obtain⟨z2,hz2⟩:=bP hxl (show 2<6 by omega);obtain⟨x2,⟨r2,o2⟩,b2⟩:=(fK Tryz.underlying3:Rd e (BK H) Tryz.prog w 3 _ _) n ((cs.drop 2).take 1) z2 (fld (t:=3) (o:=2) (m:=1) (by kernel_rfl) ((hf 2 _ rfl).trans hz2));obtain⟨z3,hz3⟩:=bP hxl (show 3<6 by omega);obtain⟨x3,⟨r3,o3⟩,b3⟩:=(fK Tryz.underlying3:Rd e (BK H) Tryz.prog w 3 _ _) n ((cs.drop 3).take 1) z3 (fld (t:=3) (o:=3) (m:=1) (by kernel_rfl) ((hf 3 _ rfl).trans hz3));obtain⟨z4,hz4⟩:=bP hxl (show 4<6 by omega);obtain⟨x4,⟨r4,o4⟩,b4⟩:=(Fu:Rd e (BK H) Tryz.prog w 137 _ _) n ((cs.drop 4).take 1) z4 (fld (t:=137) (o:=4) (m:=1) (by kernel_rfl) ((hf 4 _ rfl).trans hz4));obtain⟨z5,hz5⟩:=bP hxl (show 5<6 by omega);obtain⟨x5,⟨r5,o5⟩,b5⟩:=(Fu:Rd e (BK H) Tryz.prog w 137 _ _) n ((cs.drop 5).take 1) z5 (fld (t:=137) (o:=5) (m:=1) (by kernel_rfl) ((hf 5 _ rfl).trans hz5));refine⟨⟨x0,x1,x2,x3,x4,x5⟩,⟨?_,?_⟩,fun m hm=>⟨b0 m (aY hz0 hm),b1 m (aY hz1 hm),b2 m (aY hz2 hm),b3 m (aY hz3 hm),b4 m (aY hz4 hm),b5 m (aY hz5 hm)⟩⟩
 · have:=bG (o:=0) (m:=1) r0 (bG (o:=1) (m:=1) r1 (bG (o:=2) (m:=1) r2 (bG (o:=3) (m:=1) r3 (bG (o:=4) (m:=1) r4 (bG (o:=5) (m:=1) r5 (oS (by omega)))))))
   rw[List.drop_zero]at this;exact this
 · have:=bQ (o:=0) (m:=1) o0 (bQ (o:=1) (m:=1) o1 (bQ (o:=2) (m:=1) o2 (bQ (o:=3) (m:=1) o3 (bQ (o:=4) (m:=1) o4 (bQ (o:=5) (m:=1) o5 (qX (by omega)))))))
   rw[List.drop_zero]at this;exact this
theorem XH:Rd e (BK H) Tryz.prog w 23 (fun l:List Arc=>[.sl (l.map eH)]) (bL Zg):=qO (sz:=6) Tryz.underlying23 (by kernel_rfl) (by omega) (fun _=>rfl) (ZB)
def KA(n:Nat)(x:Network):Prop:=(bL P4) n x.places∧(bL Zg) n x.arcs
theorem MJ:Rd e (BK H) Tryz.prog w 25 aT KA:=by
 intro fuel cs y h;obtain⟨xs,n,rfl,rfl,hl,hxl,hf⟩:=DataW.trod_struct Tryz.underlying25 h;have hxl:xs.length=2:=hxl;have hl:cs.length=2:=hl.trans (by kernel_rfl);obtain⟨z0,hz0⟩:=bP hxl (show 0<2 by omega);obtain⟨x0,⟨r0,o0⟩,b0⟩:=(WK:Rd e (BK H) Tryz.prog w 22 _ _) n ((cs.drop 0).take 1) z0 (fld (t:=22) (o:=0) (m:=1) (by kernel_rfl) ((hf 0 _ rfl).trans hz0));obtain⟨z1,hz1⟩:=bP hxl (show 1<2 by omega);obtain⟨x1,⟨r1,o1⟩,b1⟩:=(XH:Rd e (BK H) Tryz.prog w 23 _ _) n ((cs.drop 1).take 1) z1 (fld (t:=23) (o:=1) (m:=1) (by kernel_rfl) ((hf 1 _ rfl).trans hz1));refine⟨⟨x0,x1⟩,⟨?_,?_⟩,fun m hm=>⟨b0 m (aY hz0 hm),b1 m (aY hz1 hm)⟩⟩
 · have:=bG (o:=0) (m:=1) r0 (bG (o:=1) (m:=1) r1 (oS (by omega)))
   rw[List.drop_zero]at this;exact this
 · have:=bQ (o:=0) (m:=1) o0 (bQ (o:=1) (m:=1) o1 (qX (by omega)))
   rw[List.drop_zero]at this;exact this
theorem HH:Rd e (BK H) Tryz.prog w 31 (fun l:List Int=>[.sl (l.map aO)]) (bL kW):=qO (sz:=1) Tryz.underlying31 (by kernel_rfl) (by omega) (fun _=>rfl) (fK Tryz.underlying3)
def M4(n:Nat)(x:VType):Prop:=P4 n x.name∧kW n x.count∧kW n x.src∧kW n x.dst∧(bL kW) n x.cap∧kW n x.skills∧kW n x.profile∧kW n x.start∧kW n x.close∧kW n x.drive∧kW n x.rest∧kW n x.fixed∧kW n x.perMile∧kW n x.perTick
theorem TV:Rd e (BK H) Tryz.prog w 87 bC M4:=by
 intro fuel cs y h;obtain⟨xs,n,rfl,rfl,hl,hxl,hf⟩:=DataW.trod_struct Tryz.underlying87 h;have hxl:xs.length=14:=hxl;have hl:cs.length=14:=hl.trans (by kernel_rfl);obtain⟨z0,hz0⟩:=bP hxl (show 0<14 by omega);obtain⟨x0,⟨r0,o0⟩,b0⟩:=(Mm Tryz.underlying9:Rd e (BK H) Tryz.prog w 9 _ _) n ((cs.drop 0).take 1) z0 (fld (t:=9) (o:=0) (m:=1) (by kernel_rfl) ((hf 0 _ rfl).trans hz0));obtain⟨z1,hz1⟩:=bP hxl (show 1<14 by omega);obtain⟨x1,⟨r1,o1⟩,b1⟩:=(fK Tryz.underlying3:Rd e (BK H) Tryz.prog w 3 _ _) n ((cs.drop 1).take 1) z1 (fld (t:=3) (o:=1) (m:=1) (by kernel_rfl) ((hf 1 _ rfl).trans hz1));obtain⟨z2,hz2⟩:=bP hxl (show 2<14 by omega);obtain⟨x2,⟨r2,o2⟩,b2⟩:=(fK Tryz.underlying3:Rd e (BK H) Tryz.prog w 3 _ _) n ((cs.drop 2).take 1) z2 (fld (t:=3) (o:=2) (m:=1) (by kernel_rfl) ((hf 2 _ rfl).trans hz2));obtain⟨z3,hz3⟩:=bP hxl (show 3<14 by omega);obtain⟨x3,⟨r3,o3⟩,b3⟩:=(fK Tryz.underlying3:Rd e (BK H) Tryz.prog w 3 _ _) n ((cs.drop 3).take 1) z3 (fld (t:=3) (o:=3) (m:=1) (by kernel_rfl) ((hf 3 _ rfl).trans hz3));obtain⟨z4,hz4⟩:=bP hxl (show 4<14 by omega);obtain⟨x4,⟨r4,o4⟩,b4⟩:=(HH:Rd e (BK H) Tryz.prog w 31 _ _) n ((cs.drop 4).take 1) z4 (fld (t:=31) (o:=4) (m:=1) (by kernel_rfl) ((hf 4 _ rfl).trans hz4));obtain⟨z5,hz5⟩:=bP hxl (show 5<14 by omega);obtain⟨x5,⟨r5,o5⟩,b5⟩:=(fK Tryz.underlying3:Rd e (BK H) Tryz.prog w 3 _ _) n ((cs.drop 5).take 1) z5 (fld (t:=3) (o:=5) (m:=1) (by kernel_rfl) ((hf 5 _ rfl).trans hz5));obtain⟨z6,hz6⟩:=bP hxl (show 6<14 by omega);obtain⟨x6,⟨r6,o6⟩,b6⟩:=(fK Tryz.underlying3:Rd e (BK H) Tryz.prog w 3 _ _) n ((cs.drop 6).take 1) z6 (fld (t:=3) (o:=6) (m:=1) (by kernel_rfl) ((hf 6 _ rfl).trans hz6));obtain⟨z7,hz7⟩:=bP hxl (show 7<14 by omega);obtain⟨x7,⟨r7,o7⟩,b7⟩:=(fK Tryz.underlying3:Rd e (BK H) Tryz.prog w 3 _ _) n ((cs.drop 7).take 1) z7 (fld (t:=3) (o:=7) (m:=1) (by kernel_rfl) ((hf 7 _ rfl).trans hz7));obtain⟨z8,hz8⟩:=bP hxl (show 8<14 by omega);obtain⟨x8,⟨r8,o8⟩,b8⟩:=(fK Tryz.underlying3:Rd e (BK H) Tryz.prog w 3 _ _) n ((cs.drop 8).take 1) z8 (fld (t:=3) (o:=8) (m:=1) (by kernel_rfl) ((hf 8 _ rfl).trans hz8));obtain⟨z9,hz9⟩:=bP hxl (show 9<14 by omega);obtain⟨x9,⟨r9,o9⟩,b9⟩:=(fK Tryz.underlying3:Rd e (BK H) Tryz.prog w 3 _ _) n ((cs.drop 9).take 1) z9 (fld (t:=3) (o:=9) (m:=1) (by kernel_rfl) ((hf 9 _ rfl).trans hz9));obtain⟨z10,hz10⟩:=bP hxl (show 10<14 by omega);obtain⟨x10,⟨r10,o10⟩,b10⟩:=(fK Tryz.underlying3:Rd e (BK H) Tryz.prog w 3 _ _) n ((cs.drop 10).take 1) z10 (fld (t:=3) (o:=10) (m:=1) (by kernel_rfl) ((hf 10 _ rfl).trans hz10));obtain⟨z11,hz11⟩:=bP hxl (show 11<14 by omega);obtain⟨x11,⟨r11,o11⟩,b11⟩:=(fK Tryz.underlying3:Rd e (BK H) Tryz.prog w 3 _ _) n ((cs.drop 11).take 1) z11 (fld (t:=3) (o:=11) (m:=1) (by kernel_rfl) ((hf 11 _ rfl).trans hz11));obtain⟨z12,hz12⟩:=bP hxl (show 12<14 by omega);obtain⟨x12,⟨r12,o12⟩,b12⟩:=(fK Tryz.underlying3:Rd e (BK H) Tryz.prog w 3 _ _) n ((cs.drop 12).take 1) z12 (fld (t:=3) (o:=12) (m:=1) (by kernel_rfl) ((hf 12 _ rfl).trans hz12));obtain⟨z13,hz13⟩:=bP hxl (show 13<14 by omega);obtain⟨x13,⟨r13,o13⟩,b13⟩:=(fK Tryz.underlying3:Rd e (BK H) Tryz.prog w 3 _ _) n ((cs.drop 13).take 1) z13 (fld (t:=3) (o:=13) (m:=1) (by kernel_rfl) ((hf 13 _ rfl).trans hz13));refine⟨⟨x0,x1,x2,x3,x4,x5,x6,x7,x8,x9,x10,x11,x12,x13⟩,⟨?_,?_⟩,fun m hm=>⟨b0 m (aY hz0 hm),b1 m (aY hz1 hm),b2 m (aY hz2 hm),b3 m (aY hz3 hm),b4 m (aY hz4 hm),b5 m (aY hz5 hm),b6 m (aY hz6 hm),b7 m (aY hz7 hm),b8 m (aY hz8 hm),b9 m (aY hz9 hm),b10 m (aY hz10 hm),b11 m (aY hz11 hm),b12 m (aY hz12 hm),b13 m (aY hz13 hm)⟩⟩
 · have:=bG (o:=0) (m:=1) r0 (bG (o:=1) (m:=1) r1 (bG (o:=2) (m:=1) r2 (bG (o:=3) (m:=1) r3 (bG (o:=4) (m:=1) r4 (bG (o:=5) (m:=1) r5 (bG (o:=6) (m:=1) r6 (bG (o:=7) (m:=1) r7 (bG (o:=8) (m:=1) r8 (bG (o:=9) (m:=1) r9 (bG (o:=10) (m:=1) r10 (bG (o:=11) (m:=1) r11 (bG (o:=12) (m:=1) r12 (bG (o:=13) (m:=1) r13 (oS (by omega)))))))))))))))
   rw[List.drop_zero]at this;exact this
 · have:=bQ (o:=0) (m:=1) o0 (bQ (o:=1) (m:=1) o1 (bQ (o:=2) (m:=1) o2 (bQ (o:=3) (m:=1) o3 (bQ (o:=4) (m:=1) o4 (bQ (o:=5) (m:=1) o5 (bQ (o:=6) (m:=1) o6 (bQ (o:=7) (m:=1) o7 (bQ (o:=8) (m:=1) o8 (bQ (o:=9) (m:=1) o9 (bQ (o:=10) (m:=1) o10 (bQ (o:=11) (m:=1) o11 (bQ (o:=12) (m:=1) o12 (bQ (o:=13) (m:=1) o13 (qX (by omega)))))))))))))))
   rw[List.drop_zero]at this;exact this
theorem QO:Rd e (BK H) Tryz.prog w 26 (fun l:List VType=>[.sl (l.map bC)]) (bL M4):=qO (sz:=14) Tryz.underlying26 (by kernel_rfl) (by omega) (fun _=>rfl) (TV)
def Rq(n:Nat)(x:Stop):Prop:=kW n x.place∧kW n x.start∧kW n x.close∧kW n x.service
theorem OZ:Rd e (BK H) Tryz.prog w 141 iC Rq:=by
 intro fuel cs y h;obtain⟨xs,n,rfl,rfl,hl,hxl,hf⟩:=DataW.trod_struct Tryz.underlying141 h;have hxl:xs.length=4:=hxl;have hl:cs.length=4:=hl.trans (by kernel_rfl);obtain⟨z0,hz0⟩:=bP hxl (show 0<4 by omega);obtain⟨x0,⟨r0,o0⟩,b0⟩:=(fK Tryz.underlying3:Rd e (BK H) Tryz.prog w 3 _ _) n ((cs.drop 0).take 1) z0 (fld (t:=3) (o:=0) (m:=1) (by kernel_rfl) ((hf 0 _ rfl).trans hz0));obtain⟨z1,hz1⟩:=bP hxl (show 1<4 by omega);obtain⟨x1,⟨r1,o1⟩,b1⟩:=(fK Tryz.underlying3:Rd e (BK H) Tryz.prog w 3 _ _) n ((cs.drop 1).take 1) z1 (fld (t:=3) (o:=1) (m:=1) (by kernel_rfl) ((hf 1 _ rfl).trans hz1));obtain⟨z2,hz2⟩:=bP hxl (show 2<4 by omega);obtain⟨x2,⟨r2,o2⟩,b2⟩:=(fK Tryz.underlying3:Rd e (BK H) Tryz.prog w 3 _ _) n ((cs.drop 2).take 1) z2 (fld (t:=3) (o:=2) (m:=1) (by kernel_rfl) ((hf 2 _ rfl).trans hz2));obtain⟨z3,hz3⟩:=bP hxl (show 3<4 by omega);obtain⟨x3,⟨r3,o3⟩,b3⟩:=(fK Tryz.underlying3:Rd e (BK H) Tryz.prog w 3 _ _) n ((cs.drop 3).take 1) z3 (fld (t:=3) (o:=3) (m:=1) (by kernel_rfl) ((hf 3 _ rfl).trans hz3));refine⟨⟨x0,x1,x2,x3⟩,⟨?_,?_⟩,fun m hm=>⟨b0 m (aY hz0 hm),b1 m (aY hz1 hm),b2 m (aY hz2 hm),b3 m (aY hz3 hm)⟩⟩
 · have:=bG (o:=0) (m:=1) r0 (bG (o:=1) (m:=1) r1 (bG (o:=2) (m:=1) r2 (bG (o:=3) (m:=1) r3 (oS (by omega)))))
   rw[List.drop_zero]at this;exact this
 · have:=bQ (o:=0) (m:=1) o0 (bQ (o:=1) (m:=1) o1 (bQ (o:=2) (m:=1) o2 (bQ (o:=3) (m:=1) o3 (qX (by omega)))))
   rw[List.drop_zero]at this;exact this
def Ly(n:Nat)(x:Order):Prop:=P4 n x.name∧(bL kW) n x.load∧Rq n x.pick∧Rq n x.drop∧kW n x.skills∧kW n x.penalty∧kW n x.split∧kW n x.last∧kW n x.now∧Yi n x.off
theorem SC:Rd e (BK H) Tryz.prog w 143 aV Ly:=by
 intro fuel cs y h;obtain⟨xs,n,rfl,rfl,hl,hxl,hf⟩:=DataW.trod_struct Tryz.underlying143 h;have hxl:xs.length=10:=hxl;have hl:cs.length=16:=hl.trans (by kernel_rfl);obtain⟨z0,hz0⟩:=bP hxl (show 0<10 by omega);obtain⟨x0,⟨r0,o0⟩,b0⟩:=(Mm Tryz.underlying9:Rd e (BK H) Tryz.prog w 9 _ _) n ((cs.drop 0).take 1) z0 (fld (t:=9) (o:=0) (m:=1) (by kernel_rfl) ((hf 0 _ rfl).trans hz0));obtain⟨z1,hz1⟩:=bP hxl (show 1<10 by omega);obtain⟨x1,⟨r1,o1⟩,b1⟩:=(HH:Rd e (BK H) Tryz.prog w 31 _ _) n ((cs.drop 1).take 1) z1 (fld (t:=31) (o:=1) (m:=1) (by kernel_rfl) ((hf 1 _ rfl).trans hz1));obtain⟨z2,hz2⟩:=bP hxl (show 2<10 by omega);obtain⟨x2,⟨r2,o2⟩,b2⟩:=(OZ:Rd e (BK H) Tryz.prog w 141 _ _) n ((cs.drop 2).take 4) z2 (fld (t:=141) (o:=2) (m:=4) (by kernel_rfl) ((hf 2 _ rfl).trans hz2));obtain⟨z3,hz3⟩:=bP hxl (show 3<10 by omega);obtain⟨x3,⟨r3,o3⟩,b3⟩:=(OZ:Rd e (BK H) Tryz.prog w 141 _ _) n ((cs.drop 6).take 4) z3 (fld (t:=141) (o:=6) (m:=4) (by kernel_rfl) ((hf 3 _ rfl).trans hz3));obtain⟨z4,hz4⟩:=bP hxl (show 4<10 by omega);obtain⟨x4,⟨r4,o4⟩,b4⟩:=(fK Tryz.underlying3:Rd e (BK H) Tryz.prog w 3 _ _) n ((cs.drop 10).take 1) z4 (fld (t:=3) (o:=10) (m:=1) (by kernel_rfl) ((hf 4 _ rfl).trans hz4));obtain⟨z5,hz5⟩:=bP hxl (show 5<10 by omega);obtain⟨x5,⟨r5,o5⟩,b5⟩:=(fK Tryz.underlying3:Rd e (BK H) Tryz.prog w 3 _ _) n ((cs.drop 11).take 1) z5 (fld (t:=3) (o:=11) (m:=1) (by kernel_rfl) ((hf 5 _ rfl).trans hz5));obtain⟨z6,hz6⟩:=bP hxl (show 6<10 by omega);obtain⟨x6,⟨r6,o6⟩,b6⟩:=(fK Tryz.underlying3:Rd e (BK H) Tryz.prog w 3 _ _) n ((cs.drop 12).take 1) z6 (fld (t:=3) (o:=12) (m:=1) (by kernel_rfl) ((hf 6 _ rfl).trans hz6));obtain⟨z7,hz7⟩:=bP hxl (show 7<10 by omega);obtain⟨x7,⟨r7,o7⟩,b7⟩:=(fK Tryz.underlying3:Rd e (BK H) Tryz.prog w 3 _ _) n ((cs.drop 13).take 1) z7 (fld (t:=3) (o:=13) (m:=1) (by kernel_rfl) ((hf 7 _ rfl).trans hz7));obtain⟨z8,hz8⟩:=bP hxl (show 8<10 by omega);obtain⟨x8,⟨r8,o8⟩,b8⟩:=(fK Tryz.underlying3:Rd e (BK H) Tryz.prog w 3 _ _) n ((cs.drop 14).take 1) z8 (fld (t:=3) (o:=14) (m:=1) (by kernel_rfl) ((hf 8 _ rfl).trans hz8));obtain⟨z9,hz9⟩:=bP hxl (show 9<10 by omega);obtain⟨x9,⟨r9,o9⟩,b9⟩:=(Wl Tryz.underlying4:Rd e (BK H) Tryz.prog w 4 _ _) n ((cs.drop 15).take 1) z9 (fld (t:=4) (o:=15) (m:=1) (by kernel_rfl) ((hf 9 _ rfl).trans hz9));refine⟨⟨x0,x1,x2,x3,x4,x5,x6,x7,x8,x9⟩,⟨?_,?_⟩,fun m hm=>⟨b0 m (aY hz0 hm),b1 m (aY hz1 hm),b2 m (aY hz2 hm),b3 m (aY hz3 hm),b4 m (aY hz4 hm),b5 m (aY hz5 hm),b6 m (aY hz6 hm),b7 m (aY hz7 hm),b8 m (aY hz8 hm),b9 m (aY hz9 hm)⟩⟩
 · have:=bG (o:=0) (m:=1) r0 (bG (o:=1) (m:=1) r1 (bG (o:=2) (m:=4) r2 (bG (o:=6) (m:=4) r3 (bG (o:=10) (m:=1) r4 (bG (o:=11) (m:=1) r5 (bG (o:=12) (m:=1) r6 (bG (o:=13) (m:=1) r7 (bG (o:=14) (m:=1) r8 (bG (o:=15) (m:=1) r9 (oS (by omega)))))))))))
   rw[List.drop_zero]at this;exact this
 · have:=bQ (o:=0) (m:=1) o0 (bQ (o:=1) (m:=1) o1 (bQ (o:=2) (m:=4) o2 (bQ (o:=6) (m:=4) o3 (bQ (o:=10) (m:=1) o4 (bQ (o:=11) (m:=1) o5 (bQ (o:=12) (m:=1) o6 (bQ (o:=13) (m:=1) o7 (bQ (o:=14) (m:=1) o8 (bQ (o:=15) (m:=1) o9 (qX (by omega)))))))))))
   rw[List.drop_zero]at this;exact this
theorem PD:Rd e (BK H) Tryz.prog w 27 (fun l:List Order=>[.sl (l.map aV)]) (bL Ly):=qO (sz:=16) Tryz.underlying27 (by kernel_rfl) (by omega) (fun _=>rfl) (SC)
def NW(n:Nat)(x:Pair):Prop:=kW n x.a∧kW n x.b
theorem WT:Rd e (BK H) Tryz.prog w 192 gF NW:=by
 intro fuel cs y h;obtain⟨xs,n,rfl,rfl,hl,hxl,hf⟩:=DataW.trod_array Tryz.underlying192 h;have hl:cs.length=2:=hl.trans (by kernel_rfl);obtain⟨z0,hz0⟩:=bP hxl (show 0<2 by omega);obtain⟨x0,⟨r0,o0⟩,b0⟩:=(fK Tryz.underlying3:Rd e (BK H) Tryz.prog w 3 _ _) n ((cs.drop 0).take 1) z0 (fld (t:=3) (o:=0) (m:=1) (by kernel_rfl) ((hf 0 (by omega)).trans hz0));obtain⟨z1,hz1⟩:=bP hxl (show 1<2 by omega);obtain⟨x1,⟨r1,o1⟩,b1⟩:=(fK Tryz.underlying3:Rd e (BK H) Tryz.prog w 3 _ _) n ((cs.drop 1).take 1) z1 (fld (t:=3) (o:=1) (m:=1) (by kernel_rfl) ((hf 1 (by omega)).trans hz1));refine⟨⟨x0,x1⟩,⟨?_,?_⟩,fun m hm=>⟨b0 m (aY hz0 hm),b1 m (aY hz1 hm)⟩⟩
 · have:=bG (o:=0) (m:=1) r0 (bG (o:=1) (m:=1) r1 (oS (by omega)))
   rw[List.drop_zero]at this;exact this
 · have:=bQ (o:=0) (m:=1) o0 (bQ (o:=1) (m:=1) o1 (qX (by omega)))
   rw[List.drop_zero]at this;exact this
theorem Iy:Rd e (BK H) Tryz.prog w 28 (fun l:List Pair=>[.sl (l.map gF)]) (bL NW):=qO (sz:=2) Tryz.underlying28 (by kernel_rfl) (by omega) (fun _=>rfl) (WT)
def A9(n:Nat)(x:Instance):Prop:=KA n x.net∧(bL M4) n x.types∧(bL Ly) n x.orders∧(bL NW) n x.apart∧(bL NW) n x.before
theorem KG:Rd e (BK H) Tryz.prog w 30 aS A9:=by
 intro fuel cs y h;obtain⟨xs,n,rfl,rfl,hl,hxl,hf⟩:=DataW.trod_struct Tryz.underlying30 h;have hxl:xs.length=5:=hxl;have hl:cs.length=6:=hl.trans (by kernel_rfl);obtain⟨z0,hz0⟩:=bP hxl (show 0<5 by omega);obtain⟨x0,⟨r0,o0⟩,b0⟩:=(MJ:Rd e (BK H) Tryz.prog w 25 _ _) n ((cs.drop 0).take 2) z0 (fld (t:=25) (o:=0) (m:=2) (by kernel_rfl) ((hf 0 _ rfl).trans hz0));obtain⟨z1,hz1⟩:=bP hxl (show 1<5 by omega);obtain⟨x1,⟨r1,o1⟩,b1⟩:=(QO:Rd e (BK H) Tryz.prog w 26 _ _) n ((cs.drop 2).take 1) z1 (fld (t:=26) (o:=2) (m:=1) (by kernel_rfl) ((hf 1 _ rfl).trans hz1));obtain⟨z2,hz2⟩:=bP hxl (show 2<5 by omega);obtain⟨x2,⟨r2,o2⟩,b2⟩:=(PD:Rd e (BK H) Tryz.prog w 27 _ _) n ((cs.drop 3).take 1) z2 (fld (t:=27) (o:=3) (m:=1) (by kernel_rfl) ((hf 2 _ rfl).trans hz2));obtain⟨z3,hz3⟩:=bP hxl (show 3<5 by omega);obtain⟨x3,⟨r3,o3⟩,b3⟩:=(Iy:Rd e (BK H) Tryz.prog w 28 _ _) n ((cs.drop 4).take 1) z3 (fld (t:=28) (o:=4) (m:=1) (by kernel_rfl) ((hf 3 _ rfl).trans hz3));obtain⟨z4,hz4⟩:=bP hxl (show 4<5 by omega);obtain⟨x4,⟨r4,o4⟩,b4⟩:=(Iy:Rd e (BK H) Tryz.prog w 28 _ _) n ((cs.drop 5).take 1) z4 (fld (t:=28) (o:=5) (m:=1) (by kernel_rfl) ((hf 4 _ rfl).trans hz4));refine⟨⟨x0,x1,x2,x3,x4⟩,⟨?_,?_⟩,fun m hm=>⟨b0 m (aY hz0 hm),b1 m (aY hz1 hm),b2 m (aY hz2 hm),b3 m (aY hz3 hm),b4 m (aY hz4 hm)⟩⟩
 · have:=bG (o:=0) (m:=2) r0 (bG (o:=2) (m:=1) r1 (bG (o:=3) (m:=1) r2 (bG (o:=4) (m:=1) r3 (bG (o:=5) (m:=1) r4 (oS (by omega))))))
   rw[List.drop_zero]at this;exact this
 · have:=bQ (o:=0) (m:=2) o0 (bQ (o:=2) (m:=1) o1 (bQ (o:=3) (m:=1) o2 (bQ (o:=4) (m:=1) o3 (bQ (o:=5) (m:=1) o4 (qX (by omega))))))
   rw[List.drop_zero]at this;exact this
end
end Go.Aw.D
end

section
set_option linter.unusedSimpArgs false
set_option linter.unusedVariables false
namespace Go.Proofs.YtdlijlecpopadaaGreatDoor
open Go.Aw Go.Aw.D Go.Proofs Go.RowKit Go.ChangeShapes Go.WideShapes Go.ChangeAt
section
variable{H:Type}{e:TypeId×Value→H}{P:Program}{W W':World}
theorem IR{f : FuncId}{args : List AV}{vals : List Value}(h : PC P f args (.v (.bool true)))(ht : He W)(ha : aZ (Sw W) W args vals):
   Calls P f vals.toArray W fun en W'=>en=.returned (.bool true)∧Below W.heap.size W W':=
 (h (Sw W) W vals (acX W ht) (fun _ h=>h) ha).mono fun en W' ⟨v,r,H',S',he,hr,_,hv,hg,_⟩=>by
   subst hr;simp only[rep]at hv;subst hv;exact⟨he,hg.os,hg.tape,hg.output,hg.size,hg.same⟩
theorem AB(hl : laidOutB P = true)(hb : Below W.heap.size W W'): ∀ {ts : List TypeId} {vs : List Value} {ds : List (DataW H)} {ps : List MemPlace}, (∀ t ∈ ts, P.readableRec t = true ∧ t < P.types.size) →
   DataW.TrodAll e P W 0 (fun _=>true) true ts vs ds ps→(∀x∈ps,x.block<W.heap.size)→∀sp:Nat→Bool,(∀x∈ps,sp x.block=true)→DataW.TrodAll e P W' 0 sp true ts vs ds ps
 | [],[],[],_,_,h,_,_,_=>h
 | t::ts,v::vs,d::ds,ps,ht,⟨p,q,h1,h2,he⟩,hlt,sp,hs=>by
   subst he;have h0:=ht t (by simp);exact⟨p,q,WideElems.Trod_stays hl h0.1 h0.2 h1 (fun x hx=>hb.same (hlt x (by simp[hx]))) (fun x hx=>hs x (by simp[hx])),
     AB hl hb (fun t ht'=>ht t (by simp[ht'])) h2 (fun x hx=>hlt x (by simp[hx])) sp (fun x hx=>hs x (by simp[hx])),rfl⟩
theorem L1{t : TypeId}{fs : Array Field}{α : Type}{enc : α → List AV}{b : Nat → α → Prop}{r : Reach}{b0 : Nat}{v : Value}{d : DataW H}{ps : List MemPlace}(ht : P.underlying t = some (.struct fs))
   (hr:Rd e (BK H) P W t enc b) (hval:Value.okWide P W r b0 t v) (hd:DataW.Trod e P W 0 (fun _=>true) true t v d ps):∃x:α,rep (Sw W) W (.agg (enc x)) v∧∀n,BK H d≤n→b n x:=by
 obtain⟨cs,rfl,_⟩:=okWide_struct ht hval;obtain⟨fuel,h⟩:=hd;obtain⟨x,⟨h1,h2⟩,h3⟩:=hr fuel _ _ h;refine⟨x,?_,h3⟩;simp only[rep];exact⟨cs.toList,by simp,h1,h2⟩
theorem Qe{t et : TypeId}{α : Type}{enc : α → List AV}{b : Nat → List α → Prop}{r : Reach}{b0 : Nat}{v : Value}{d : DataW H}{ps : List MemPlace}(ht : P.underlying t = some (.slice et))
   (hr:Rd e (BK H) P W t (fun l:List α=>[.sl (l.map enc)]) b) (hval:Value.okWide P W r b0 t v) (hd:DataW.Trod e P W 0 (fun _=>true) true t v d ps):∃x:List α,rep (Sw W) W (.sl (x.map enc)) v∧∀n,BK H d≤n→b n x:=by
 obtain⟨a,len,cap,rfl⟩:=okWide_slice ht hval;obtain⟨fuel,h⟩:=hd;obtain⟨x,⟨h1,h2⟩,h3⟩:=hr fuel _ _ h;refine⟨x,?_,h3⟩;simp only[aZ]at h1;obtain⟨u,tl,h4,h5,rfl⟩:=h1;have:Value.cells (.slice a len cap)=#[.slice a len cap]:=rfl;rw[this]at h4;simp at h4;subst h4;exact h5
theorem Pu{fn : Func}{s : ChangeSpec}{args : Array Value}{ds gs : List (DataW H)}{before : List MemPlace}(hl : laidOutB P = true)(hts : ∀ t ∈ fn.params.toList, P.readableRec t = true ∧ t < P.types.size)
   (hvars:s.vars=[]) {tb:TypeId} (hbt:P.underlying tb=some .bool) (hrt:fn.resultTypes=#[tb]) (hW:DataW.Whole e P fn.params.toList s.vars false W args.toList ds gs before)
   (hres:(s.fn H (ds++gs)).results=[.lit (.bool true)]) (hargs:(s.fn H (ds++gs)).args=ds) (hvs:(s.fn H (ds++gs)).vars=[]) (hb:Below W.heap.size W W'):
   s.post e P fn false true false false W args (.bool true) W':=by
 have hlt:=hW.lt;have hW':=hW;obtain⟨p,q,hA,hV,rfl,hfz,hnd⟩:=hW;rw[hvars]at hV;obtain⟨rfl,rfl⟩:=trodVars_none hV;have hk:W.keptBut W' (·∈p++[]):=hb.frame _;have hold:∀x∈p++[],(fun b=>decide (b<W.heap.size)) x.block=true:=fun x hx=>by simpa using hlt x hx
 have r1:∀(b:Nat) (sp:Nat→Bool) (hd:Bool),DataW.TrodAll e P W' b sp hd fn.resultTypes.toList ((Value.bool true).resultList fn.resultTypes.size) (s.fn H (ds++[])).results []:=fun b sp hd=>by
   rw[hrt,hres];exact trodAll_cons_mk (shut_bool hbt _) trodAll_mk0
 have r2:∀sp:Nat→Bool,(∀x∈p++[],sp x.block=true)→DataW.TrodAll e P W' 0 sp true fn.params.toList args.toList (s.fn H (ds++[])).args p:=fun sp hsp=>by
   rw[hargs];exact AB hl hb hts hA (fun x hx=>hlt x (by simp[hx])) sp (fun x hx=>hsp x (by simp[hx]))
 have r3:∀sp:Nat→Bool,DataW.TrodVars e P W' sp s.vars (s.fn H (ds++[])).vars []:=fun sp=>by
   rw[hvars,hvs];simp[DataW.TrodVars]
 refine⟨ds,[],p++[],[],p,[],hW',r1 _ _ _,r2 _ hold,r3 _,World.keptBut_mono (fun x hx=>⟨hx,.inr (by simpa using hx)⟩) hk,fun _=>?_⟩;refine⟨?_,_,_,([]++p)++[],⟨[]++p,[],trodAll_append (r2 _ (fun _ _=>rfl)) (r1 _ _ _),r3 _,rfl,?_,?_⟩,?_⟩
 · exact ok_one hrt rfl (okWide_bool_mk hbt _)
 · intro b off hp
   have hp':MemPlace.cell b off∈p++[]:=by simpa using hp
   rw[hb.frozen (hlt _ hp')];exact hfz b off hp'
 · intro ha;simp at ha
 · intro x hx _
   simpa using hx
end
end Go.Proofs.YtdlijlecpopadaaGreatDoor
end

section
set_option linter.unusedSimpArgs false
set_option linter.unusedVariables false
namespace Go.Proofs.YtdlijlecpopadaaGreatDoor
def pH(n N:Int):Bool:=decide (n<0)||decide (n≥N)
end Go.Proofs.YtdlijlecpopadaaGreatDoor
namespace Go.Proofs.YtdlijlecpopadaaGreatDoor.Mv
open Go.Aw Go.Aw.D Go.Proofs Ty
set_option maxRecDepth 100000
theorem fZ{H:aE}{k:IntKind}{a b:Int}(h:a=b):Conv H (.v (.int k a)) (.v (.int k b)):=h▸.refl _
theorem fA{H:aE}{a b:Bool}(h:a=b):Conv H (.v (.bool a)) (.v (.bool b)):=h▸.refl _
theorem kI{H:aE}{a b:List AV}(h:a=b):Conv H (.agg a) (.agg b):=h▸.refl _
abbrev kK(l:List Int):Row:=⟨3,1,l.map aO⟩
theorem TJ{n:Int}(h:0≤n∧n<18446744073709551616):IntKind.u64.wrap n=n:=by
 have e:IntKind.u64.wrap n=n%18446744073709551616:=rfl;rw[e];omega
theorem bR{α:Type}{p:α→Prop}{l:List α}{k:Nat}{x:α}(hk:l[k]?=some x)(hx:p x)(h:∀x∈l.take k,p x):∀x∈l.take (k+1),p x:=by
 rw[cM hk];intro y hy;rcases List.mem_append.1 hy with hy|hy
 · exact h y hy
 · simp at hy;subst hy;exact hx
theorem NC.pc{f:FuncId}{args:List AV}{r:Row}(h:NC Tryz.prog f args r .os):PC Tryz.prog f args (.sl r.es):=
 RC.conv (RC.mono h fun x H' ⟨k,hx,hk⟩=>hx▸.row k r r.es hk (ConvE.refl _))
end Go.Proofs.YtdlijlecpopadaaGreatDoor.Mv
end

section
set_option linter.unusedSimpArgs false
set_option linter.unusedVariables false
namespace Go.Proofs.YtdlijlecpopadaaGreatDoor.Sq
open Go.Aw Go.Aw.D Go.Proofs Ty
open Mv (fZ fA NC.pc bR)
set_option maxRecDepth 100000
def abJ(v u:Visit):Bool:=u.order == v.order&&(u.drop == v.drop&&true)
def qS{α:Type}(p:α→Bool):List α→Int→Int
 | [],_=> -1
 | x::r,n=>if p x=true then n else qS p r (n+1)
theorem sY{α:Type}{p:α→Bool}{l:List α}{k:Nat}{x:α}(h:∀y∈l.take k,p y=false)(hk:l[k]?=some x)(hx:p x=true):∀n,qS p l n=n+k:=by
 induction l generalizing k with
 | nil=>simp at hk
 | cons a r ih=>
   intro n;cases k with
   | zero=>simp at hk;subst hk;simp only[qS];rw[if_pos hx];simp
   | succ k=>
     have h0:=h a (by simp);simp only[qS];rw[if_neg (by rw[h0];simp),ih (k:=k) (fun y hy=>h y (by simp[hy])) (by simpa using hk)];omega
theorem pV{α:Type}{p:α→Bool}{l:List α}(h:∀y∈l,p y=false):∀n,qS p l n= -1:=by
 induction l with
 | nil=>intro n;rfl
 | cons a r ih=>intro n;simp only[qS];rw[if_neg (by rw[h a (by simp)];simp)];exact ih (fun y hy=>h y (by simp[hy])) _
def Cs(l:List Visit)(v:Visit):Int:=qS (abJ v) l 0
def LU(l s:List Visit):Bool:=s.all fun v=> !decide (Cs l v<0)
def zJ(l vs:List Visit)(v:Visit):Bool:=decide (Cs vs v<0)|| !LU l vs||((vs.length:Int) == 2&&decide (Cs l (vs.getD 0 ⟨0,false⟩)>Cs l (vs.getD 1 ⟨0,false⟩)))
def aJ(l:List Visit)(j:Nat):Int:=(l.getD j ⟨0,false⟩).order
def iM(a c:List Int):Bool:=((a.length:Int) == (c.length:Int))&&(List.range a.length).all fun i=> !decide (a.getD i 0>c.getD i 0)
def M5(x:Instance):Int:=match x.types[0]? with|some t=>t.cap.length|none=>0
def VF(l:List Int):List AV:=[.sl (l.map aO)]
end Go.Proofs.YtdlijlecpopadaaGreatDoor.Sq
end

section
set_option linter.unusedSimpArgs false
set_option linter.unusedVariables false
namespace Go.Proofs.YtdlijlecpopadaaGreatDoor.Sq
open Go.Aw Go.Aw.D Go.Proofs Ty
open Mv (fZ fA NC.pc bR)
open Mv (fZ fA kI NC.pc bR)
set_option maxRecDepth 100000
def Ck(n:Network)(i:Int):Bool:=decide (i≥0)&&decide (i<(n.places.length:Int))
theorem Gx(n:Network)(i:Int):PC Tryz.prog 272 [.agg (aT n),int i] (boo (Ck n i)):=by
 refine PC.body (c:=Tryz.f272.body.getD .skip) (fun _=>false) mixed Tryz.func272 rfl (by kernel_rfl) ?_;unfold Tryz.f272;simp only[Option.getD_some];simp only[go_sem];exact .refl _
def wU:Arc:=⟨0,0,0,0,[],[]⟩
def Dl(p f t:Int)(a:Arc):Bool:=a.src == f&&a.dst == t&&a.profile == p
def kF(n:Network)(p f t:Int):Option Arc:=n.arcs.find? (Dl p f t)
theorem zX{α:Type}{p:α→Bool}{l:List α}{k:Nat}{x:α}(h:∀y∈l.take k,p y=false)(hk:l[k]?=some x)(hx:p x=true):l.find? p=some x:=by
 induction l generalizing k with
 | nil=>simp at hk
 | cons a r ih=>
   cases k with
   | zero=>simp at hk;subst hk;simp[List.find?,hx]
   | succ k=>
     have h0:=h a (by simp);rw[List.find?_cons,h0];exact ih (k:=k) (fun y hy=>h y (by simp[hy])) (by simpa using hk)
theorem xF{α:Type}{p:α→Bool}{l:List α}(h:∀y∈l,p y=false):l.find? p=none:=List.find?_eq_none.2 fun y hy=>by rw[h y hy];simp
theorem QY(n:Network)(p f t:Int)(hl:n.arcs.length≤1048576):PC Tryz.prog 273 [.agg (aT n),int p,int f,int t] (.tup [.agg (eH ((kF n p f t).getD wU)),boo (kF n p f t).isSome]):=by
 refine PC.body (c:=Tryz.f273.body.getD .skip) (fun _=>false) mixed Tryz.func273 rfl (by kernel_rfl) ?_;unfold Tryz.f273;simp only[Option.getD_some];simp only[go_sem];refine aL fun j hj=>?_
 simp only[go_sem];refine⟨fun ρ H=>∃k:Nat,k≤n.arcs.length∧ρ 1=int p∧ρ 2=int f∧ρ 3=int t∧ρ 4=.rp (aT n) 0∧ρ 8=.op j 0 0∧ρ 10=int k∧H j=some ⟨139,6,[[int 0,int 0,int 0,int 0,.sl [],.sl []]]⟩∧∀a∈n.arcs.take k,Dl p f t a=false,fun ρ _=>n.arcs.length-bE (ρ 10),⟨0,Nat.zero_le _,rfl,rfl,rfl,rfl,rfl,rfl,aA _ _ _,by simp⟩,?_⟩;clear hj;rintro ρ H ⟨k,hk,h1,h2,h3,h4,h8,h10,hj,hz⟩;simp only[go_sem,h1,h2,h3,h4,h8,h10];refine aB (fun hlt=>?_) (fun hge=>?_)
 · have hlt:=cF hlt
   obtain⟨a,hak⟩:=aW hlt;have b1:=inB hlt;simp only[go_sem,h1,h2,h3,h4,h8,h10,aF hak,b1];refine aL fun i hi=>?_
   have hne:j≠i:=aN hj hi;simp only[go_sem,h1,h2,h3,h4,h8,h10,aF hak,b1];refine aP (aA _ _ _) (by simp[dF]) ?_;simp only[go_sem,h1,h2,h3,h4,h8,h10,aF hak,b1];generalize hG:aG (aG H i _) i _=HG;have hj':HG j=some ⟨139,6,[[int 0,int 0,int 0,int 0,.sl [],.sl []]]⟩:=by rw[←hG,aC _ _ _ _ hne,aC _ _ _ _ hne];exact hj
   have hi':HG i=some ⟨139,6,[eH a]⟩:=by rw[←hG,aA]
   clear hG hj hi;refine aB (fun hb=>?_) (fun hb=>?_)
   · simp only[go_sem,h8,hi',dF]
     refine aP hj' (by simp[dF]) ?_;simp only[go_sem,h8,dF];have:kF n p f t=some a:=zX hz hak hb;rw[this];exact .refl _
   · simp only[go_sem,h1,h2,h3,h4,h8,h10,bA (show k≤4611686018427387904 by omega)]
     exact⟨⟨k+1,hlt,rfl,hj',bR (p:=fun a=>Dl p f t a=false) hak hb hz⟩,by simp only[aH];omega⟩
 · have hge:=cH hk hge
   subst hge;rw[List.take_length]at hz;simp only[go_sem,h8];refine aP hj (by simp) ?_;simp only[go_sem,h8];have:kF n p f t=none:=xF hz;rw[this];exact .refl _
def W(n:Int):Int:=IntKind.i64.wrap n
def kU(l:List Point)(t:Int)(k:Nat):Bool:=decide ((dH l k).t≤t)&&decide (t<(dH l (k+1)).t)
def Dv(p q:Point)(t:Int):Int:=W (p.a+IntKind.i64.wrap (Int.tdiv (W (W (W (W (W (t-p.t)*W (q.a-p.a))+q.t)-p.t)-1)) (W (q.t-p.t))))
def uL(e:Point)(t:Int):Int:=W (W (t+e.a)-e.t)
def pB(l:List Point)(t:Int):Bool:=decide (((iA l).length:Int)>0)||decide (t<0)||decide (t>1073741824)
def fD(l:List Point)(t:Int):Int:=
 if pB l t=true then 0 else match (List.range (l.length-1)).find? (kU l t)with
 | some k=>Dv (dH l k) (dH l (k+1)) t
 | none=>if decide (t>(dH l 0).t)=true then uL (dH l (l.length-1)) t else uL (dH l 0) t
def Vo(n:Int):Prop:= -9223372036854775808≤n∧n≤9223372036854775807
theorem Ou{n:Int}(h:0<n∧n<18446744073709551616):¬IntKind.i64.wrap n=0:=by
 show ¬(if(true&&decide (n%18446744073709551616≥9223372036854775808))=true then n%18446744073709551616-18446744073709551616 else n%18446744073709551616)=0;by_cases h1:n%18446744073709551616≥9223372036854775808
 · rw[if_pos (by simpa using h1)];omega
 · rw[if_neg (by simpa using h1)];omega
theorem Lt(l:List Point)(t:Int)(hl:l.length≤1048576)(hp:∀p∈l,Vo p.t):PC Tryz.prog 305 [.sl (l.map bJ),int t] (int (fD l t)):=by
 refine PC.body (c:=Tryz.f305.body.getD .skip) (fun _=>false) mixed Tryz.func305 rfl (by kernel_rfl) ?_;unfold Tryz.f305;simp only[Option.getD_some];simp only[go_sem];refine PC.use (Fv l hl) ?_;simp only[go_sem];refine aB (fun hb=>?_) (fun hb=>?_)
 · simp only[go_sem]
   exact fZ (by unfold fD;rw[if_pos (show pB l t=true by simpa[pB]using hb)])
 have hbad:pB l t=false:=by simpa[pB]using hb
 have hne:0<l.length:=by
   simp only[pB,Bool.or_eq_false_iff,decide_eq_false_iff_not]at hbad;have h0:iA l=[]:=List.eq_nil_of_length_eq_zero (by omega);simp only[iA,List.append_eq_nil_iff]at h0;have h1:=h0.1;cases hbl:yQ l.length 1 16 with
   | true=>rw[hbl]at h1;simp[opt]at h1
   | false=>simp only[yQ,Bool.or_eq_false_iff,decide_eq_false_iff_not]at hbl;omega
 have ht:0≤t∧t≤1073741824:=by
   simp only[pB,Bool.or_eq_false_iff,decide_eq_false_iff_not]at hbad;omega
 have hval:fD l t=match (List.range (l.length-1)).find? (kU l t)with
   | some k=>Dv (dH l k) (dH l (k+1)) t
   | none=>if decide (t>(dH l 0).t)=true then uL (dH l (l.length-1)) t else uL (dH l 0) t:=by
   unfold fD;rw[if_neg (by rw[hbad];simp)]
 rw[hval];simp only[go_sem];refine⟨fun ρ _=>∃k:Nat,k≤l.length-1∧ρ 0=.sl (l.map bJ)∧ρ 1=int t∧ρ 5=int k∧∀c∈(List.range (l.length-1)).take k,kU l t c=false,fun ρ _=>l.length-1-bE (ρ 5),⟨0,Nat.zero_le _,rfl,rfl,rfl,by simp⟩,?_⟩;rintro ρ H ⟨k,hk,h0,h1,h5,hz⟩;simp only[go_sem,h0,h1,h5,bA (show k≤4611686018427387904 by omega)];refine aB (fun hlt=>?_) (fun hge=>?_)
 · have hlt:k<l.length-1:=by simp at hlt;omega
   obtain⟨p,hpk⟩:=aW (show k<l.length by omega);obtain⟨q,hqk⟩:=aW (show k+1<l.length by omega);have b1:=inB (show k<l.length by omega);have b2:=inB (show k+1<l.length by omega);have pb:=hp p (List.mem_of_getElem? hpk);have qb:=hp q (List.mem_of_getElem? hqk);have es:kU l t k=(decide (p.t≤t)&&decide (t<q.t)):=by unfold kU;rw[cT hpk,cT hqk]
   simp only[go_sem,h0,h1,h5,aF hpk,b1];refine aL fun i1 hi1=>?_
   simp only[go_sem,h0,h1,h5,aF hpk,b1];refine aP (aA _ _ _) (by simp[dV]) ?_;simp only[go_sem,h0,h1,h5,aF hqk,b2,bA (show k≤4611686018427387904 by omega)];generalize hG:aG (aG H i1 _) i1 _=H1;have R1:H1 i1=some ⟨136,2,[bJ p]⟩:=by rw[←hG,aA]
   clear hG hi1;refine aL fun i2 hi2=>?_
   have n12:i1≠i2:=aN R1 hi2;simp only[go_sem,h0,h1,h5,aF hqk,b2,bA (show k≤4611686018427387904 by omega)];refine aP (aA _ _ _) (by simp[dV]) ?_;generalize hG:aG (aG H1 i2 _) i2 _=H2;have R2:H2 i2=some ⟨136,2,[bJ q]⟩:=by rw[←hG,aA];rfl
   have R1:H2 i1=some ⟨136,2,[bJ p]⟩:=by rw[←hG,aC _ _ _ _ n12,aC _ _ _ _ n12];exact R1
   clear hG hi2;simp only[go_sem,h0,h1,h5,R1,R2];rw[←es];refine aB (fun hs=>?_) (fun hs=>?_)
   · have hs2:=hs
     rw[es]at hs2;simp only[Bool.and_eq_true,decide_eq_true_eq]at hs2;simp only[go_sem];refine fQ (by rfl) (by kernel_rfl) ?_;simp only[go_sem,h0,h1,h5,R1,R2];have hf:(List.range (l.length-1)).find? (kU l t)=some k:=zX hz (mP hlt) hs;rw[hf];simp only;rw[cT hpk,cT hqk];unfold Vo at pb qb;exact⟨Ou (by omega),.refl _⟩
   · simp only[go_sem,h0,h1,h5,bA (show k≤4611686018427387904 by omega)]
     exact⟨⟨k+1,by omega,rfl,bR (p:=fun c=>kU l t c=false) (mP hlt) hs hz⟩,by simp only[aH];omega⟩
 · have hge:k=l.length-1:=by simp at hge;omega
   subst hge;have hf:(List.range (l.length-1)).find? (kU l t)=none:=xF fun c hc=>hz c (by rw[List.take_of_length_le (by simp)];exact hc)
   rw[hf];obtain⟨p,hpk⟩:=aW hne;obtain⟨q,hqk⟩:=aW (show l.length-1<l.length by omega);have e0:=cT hpk;have e1:=cT hqk;have wl:IntKind.i64.wrap ((l.length:Int)-1)=((l.length-1:Nat):Int):=by rw[aQ (by omega)];omega
   simp only[go_sem,h0,h1,aF hpk];refine⟨⟨by decide,by omega⟩,?_⟩;refine aL fun i hi=>?_
   simp only[go_sem,h0,h1,aF hpk];refine aP (aA _ _ _) (by simp[dV]) ?_;generalize hG:aG (aG H i _) i _=H1;have R1:H1 i=some ⟨136,2,[bJ p]⟩:=by rw[←hG,aA];rfl
   clear hG hi;simp only[go_sem,h0,h1,R1];rw[e0];refine dT (fun ρ' H'=>ρ' 1=int t∧ρ' 8=.op i 0 0∧H' i=some ⟨136,2,[bJ (if decide (t>p.t)=true then q else p)]⟩) ?_ fun K hK _ _=>aB (fun hb=>?_) (fun hb=>?_)
   · clear h0 h1 h5 R1
     rintro ρ H ⟨h1,h8,R⟩;simp only[go_sem,h1,h8,R];rw[e1];refine fZ ?_;cases decide (t>p.t) <;> rfl
   · simp only[go_sem,h0,h1,wl,aF hqk]
     refine⟨⟨by omega,by omega⟩,?_⟩;refine aP R1 (by simp[dV]) ?_;simp only[go_sem];refine hK _ _ ⟨by simp only[go_sem,h1],by simp only[go_sem],?_⟩;rw[aA,if_pos hb];rfl
   · simp only[go_sem]
     refine hK _ _ ⟨by simp only[go_sem,h1],by simp only[go_sem],?_⟩;rw[if_neg (by rw[hb];simp)];exact R1
end Go.Proofs.YtdlijlecpopadaaGreatDoor.Sq
end
