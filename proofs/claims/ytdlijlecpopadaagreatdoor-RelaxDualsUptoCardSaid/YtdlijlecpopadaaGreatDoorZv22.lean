/- Texts joined by a program: Read, Bridge, MvZ, SqA, SqF, SqJ, SqO, SqR, AuA. -/
import Derived.Test.YtdlijlecpopadaaGreatDoorRows
import Derived.Carry
import Derived.OpenShut
import Derived.JoinedCond
import Derived.WalkKit
import Derived.ProofKit
import Derived.WideKeyArgs
import Derived.Test.YtdlijlecpopadaaGreatDoorZv21
set_option linter.unusedSimpArgs false
set_option linter.unusedVariables false
set_option maxRecDepth 100000
section
namespace Go.Aw.D
open Go.Aw Go.RowKit
def Sw(w:World):Sg:=⟨fun k=>k<w.heap.size,fun k=>k<w.heap.size,fun _=>.slice none 0 0,fun _=>1,0⟩
def F6(w:World):Prop:=∀t∈NO,pK w t.1=some t.2
theorem JY{w:World}{g:Nat}{cs:Array Value}(h:pK w g=some cs):g<w.heap.size:=by
 unfold pK at h;split at h
 · rename_i h1;exact(Array.getElem?_eq_some_iff.1 h1).1
 · cases h
theorem abC(w:World)(ht:F6 w):St (Sw w) w bT:=⟨fun _ h=>h,fun _ h=>h,fun k r hk=>by simp[bT]at hk,fun k r hk=>by simp[bT]at hk,fun k k' r r' hk=>by simp[bT]at hk,fun t h=>⟨JY (ht t h),ht t h⟩⟩
def jX(_:Nat)(x:Int):Prop:= -9223372036854775808≤x∧x≤9223372036854775807
def V2(_:Nat)(_:Bool):Prop:=True
def HF(n:Nat)(s:ByteArray):Prop:=s.size≤n
def bL{α:Type}(b:Nat→α→Prop)(n:Nat)(l:List α):Prop:=l.length≤n∧∀x∈l,b n x
def Rd{H:Type}(e:TypeId×Value→H)(B:DataW H→Nat)(P:Program)(w:World)(t:TypeId){α:Type}(enc:α→List AV)(b:Nat→α→Prop):Prop:=
 ∀fuel cs y,DataW.trod e P w 0 (fun _=>true) true fuel t cs=some y→∃x:α,(aS (Sw w) w (enc x) cs∧∀u∈cs,u.oneCell'=true)∧∀n,B y.1≤n→b n x
section
variable{H:Type}{e:TypeId×Value→H}{P:Program}{w:World}{t:TypeId}
abbrev BK(H:Type):DataW H→Nat:=Go.Proofs.YtdlijlecpopadaaGreatDoor.Rows.uptoBulk
theorem eV(ht:P.underlying t=some (.int .i64)):Rd e (BK H) P w t aM jX:=by
 intro fuel cs y h;obtain⟨n,rfl,_,hw⟩:=DataW.trod_int ht h;refine⟨n,⟨by simp only[aM,aS];exact⟨_,_,rfl,by simp only[rep],rfl⟩,by simp[Value.oneCell']⟩,fun _ _=>bounds_i64 hw⟩
theorem Ug(ht:P.underlying t=some .bool):Rd e (BK H) P w t Bo V2:=by
 intro fuel cs y h;obtain⟨n,rfl,_⟩:=DataW.trod_bool ht h;refine⟨n,⟨by simp only[Bo,aS];exact⟨_,_,rfl,by simp only[rep],rfl⟩,by simp[Value.oneCell']⟩,fun _ _=>trivial⟩
theorem Gy(ht:P.underlying t=some .string):Rd e (BK H) P w t cV HF:=by
 intro fuel cs y h;obtain⟨s,rfl,rfl,_⟩:=DataW.trod_string ht h;refine⟨s,⟨by simp only[cV,aS];exact⟨_,_,rfl,by simp only[rep],rfl⟩,by simp[Value.oneCell']⟩,fun n hn=>?_⟩;simp only[BK,Go.Proofs.YtdlijlecpopadaaGreatDoor.Rows.uptoBulk,Array.length_toList]at hn;have:s.size=s.data.size:=rfl;simp only[HF];omega
theorem DP{d:DataW H}{l:List (DataW H)}(h:d∈l):BK H d≤Go.Proofs.YtdlijlecpopadaaGreatDoor.Rows.uptoBulkAll l:=by
 induction l with
 | nil=>cases h
 | cons x r ih=>
   simp only[Go.Proofs.YtdlijlecpopadaaGreatDoor.Rows.uptoBulkAll];cases List.mem_cons.1 h with
   | inl e=>subst e;simp only[BK];omega
   | inr e=>have:=ih e;omega
theorem SK(d:DataW H):1≤BK H d:=by
 cases d with
 | lit l=>cases l <;> simp[BK,Go.Proofs.YtdlijlecpopadaaGreatDoor.Rows.uptoBulk]
 | nil=>simp[BK,Go.Proofs.YtdlijlecpopadaaGreatDoor.Rows.uptoBulk]
 | ptr d=>simp[BK,Go.Proofs.YtdlijlecpopadaaGreatDoor.Rows.uptoBulk]
 | slice elems spare=>simp[BK,Go.Proofs.YtdlijlecpopadaaGreatDoor.Rows.uptoBulk]
 | agg parts=>simp[BK,Go.Proofs.YtdlijlecpopadaaGreatDoor.Rows.uptoBulk]
 | iface t d=>simp[BK,Go.Proofs.YtdlijlecpopadaaGreatDoor.Rows.uptoBulk]
 | map entries=>simp[BK,Go.Proofs.YtdlijlecpopadaaGreatDoor.Rows.uptoBulk]
 | held h=>simp[BK,Go.Proofs.YtdlijlecpopadaaGreatDoor.Rows.uptoBulk]
theorem GY(l:List (DataW H)):l.length≤Go.Proofs.YtdlijlecpopadaaGreatDoor.Rows.uptoBulkAll l:=by
 induction l with
 | nil=>simp[Go.Proofs.YtdlijlecpopadaaGreatDoor.Rows.uptoBulkAll]
 | cons x r ih=>have:=SK x;simp only[Go.Proofs.YtdlijlecpopadaaGreatDoor.Rows.uptoBulkAll,List.length_cons,BK]at *;omega
theorem In{α:Type}(n:Nat)(p:Nat→α→Prop)(h:∀i,i<n→∃x,p i x):∃l:List α,l.length=n∧∀i x,l[i]?=some x→p i x:=by
 induction n with
 | zero=>exact⟨[],rfl,by simp⟩
 | succ n ih=>
   obtain⟨l,hl,hp⟩:=ih fun i hi=>h i (by omega)
   obtain⟨x,hx⟩:=h n (by omega);refine⟨l++[x],by simp[hl],fun i y hy=>?_⟩;rcases Nat.lt_or_ge i n with hi|hi
   · rw[List.getElem?_append_left (by omega)]at hy;exact hp i y hy
   · rw[List.getElem?_append_right (by omega)]at hy
     have:i-l.length=0:=by
       rcases Nat.eq_zero_or_pos (i-l.length)with h0|h0
       · exact h0
       · rw[List.getElem?_eq_none (by simp;omega)]at hy;simp at hy
     rw[this]at hy;have hi':i=n:=by omega
     subst hi';simp at hy;subst hy;exact hx
theorem zE{S:Sg}{b sz:Nat}{α:Type}{enc:α→List AV}(hlen:∀x,(enc x).length=sz):∀(l:List α) (o:Nat),(∀i x,l[i]?=some x→cJ S w b (o+i*sz) (enc x))→gC S w b sz o (l.map enc)
 | [],_,_=>by simp[gC]
 | x::r,o,h=>by
   simp only[List.map_cons,gC];refine⟨hlen x,by simpa using h 0 x rfl,zE hlen r (o+sz) fun i y hy=>?_⟩;have:=h (i+1) y (by simpa using hy)
   rwa [show o+(i+1)*sz=o+sz+i*sz by rw[Nat.add_mul];omega]at this
theorem As{a:Addr}{n:Nat}{cs:List Value}(h:w.cells? 0 a n=some cs):cs.length=n∧∀j,j<n→w.cell? (a.add j)=cs[j]?:=by
 unfold World.cells? at h;rw[if_pos (Nat.zero_le _)]at h;have hl:=mapM_some_length h;exact⟨by simpa using hl,fun j hj=>mapM_some_get h j j (by simp[hj])⟩
theorem nX{α:Type}{enc:α→List AV}{b:Nat→α→Prop}{et:TypeId}{sz:Nat}(ht:P.underlying t=some (.slice et))(hc:P.cellsOf et=sz)(hpos:0<sz)(hlen:∀x,(enc x).length=sz)(hr:Rd e (BK H) P w et enc b):
   Rd e (BK H) P w t (fun l:List α=>[.sl (l.map enc)]) (bL b):=by
 intro fuel cs y h;rcases DataW.trod_slice ht h with⟨rfl,rfl⟩|⟨a,len,cap,elems,rest,n,rfl,rfl,rfl,_,hlc,hcap,hel,hget,hsp,_⟩
 · refine⟨[],⟨?_,by simp[Value.oneCell']⟩,fun n _=>⟨by simp,by simp⟩⟩
   simp only[aS,rep,List.map_nil];exact⟨_,_,rfl,⟨none,0,0,rfl,rfl,Nat.le_refl _,Nat.zero_le _,by simp⟩,rfl⟩
 · have hp : ∀ i, i < len → ∃ x : α, ∃ z cs', elems[i]? = some z ∧ w.cells? 0 (a.add (i * sz)) sz = some cs' ∧ (aS (Sw w) w (enc x) cs' ∧ ∀ u ∈ cs', u.oneCell' = true) ∧ ∀ n, BK H z.1 ≤ n → b n x := fun i hi => by
     have hg:=hget i hi;rw[List.getElem?_eq_getElem (by omega),hc,Option.bind_eq_some_iff]at hg;obtain⟨cs',h1,h2⟩:=hg;obtain⟨x,hx,hb⟩:=hr _ _ _ h2;exact⟨x,_,cs',List.getElem?_eq_getElem (by omega),h1,hx,hb⟩
   obtain⟨l,hl,hpl⟩:=In len _ hp;refine⟨l,⟨?_,by simp[Value.oneCell']⟩,fun m hm=>⟨?_,fun x hx=>?_⟩⟩
   · simp only[aS]
     refine⟨_,_,rfl,?_,rfl⟩;simp only[rep];refine⟨some a,len,cap,rfl,by simp[hl],hlc,hcap,?_⟩;rcases Nat.eq_zero_or_pos len with h0|h0
     · left;rw[List.eq_nil_of_length_eq_zero (hl.trans h0)];rfl
     · right
       have h00:=hp 0 h0;obtain⟨_,_,cs0,_,hc0,_⟩:=h00;have q:=(As hc0).2 0 hpos;have hlen0:=(As hc0).1;rw[List.getElem?_eq_getElem (by omega)]at q;simp only[Nat.zero_mul,Addr.add,if_true]at q;have hspot:a.spot=none∧a.block<w.heap.size:=by
         unfold World.cell? at q;split at q
         · rename_i c _ _ hb
           split at q
           · simp at q
           · rename_i hs
             refine⟨by simpa using hs,?_⟩;rcases Nat.lt_or_ge a.block w.heap.size with h|h
             · exact h
             · rw[Array.getElem?_eq_none h]at hb;simp at hb
         · simp at q
       obtain⟨ab,ao,asp⟩:=a;obtain⟨hs,hlt⟩:=hspot;simp only at hs hlt;subst hs;refine⟨ab,ao,sz,rfl,hlt,hpos,zE hlen l ao fun i x hx=>?_⟩;obtain⟨z,cs',_,hcs,⟨h1,h2⟩,_⟩:=hpl i x hx;refine iF _ cs' _ h1 h2 fun j u hj=>?_
       obtain⟨e1,e2⟩:=As hcs;have hj':j<sz:=by
         rcases Nat.lt_or_ge j sz with h|h
         · exact h
         · rw[List.getElem?_eq_none (by omega)]at hj;simp at hj
       have:=e2 j hj';rw[hj,Addr.add_lit,Addr.add_lit]at this;exact this
   · rw[hl,←hel]
     have h1:=GY (elems.map (·.1));simp only[BK,Go.Proofs.YtdlijlecpopadaaGreatDoor.Rows.uptoBulk,List.length_map]at hm h1;omega
   · obtain⟨i,hi⟩:=List.mem_iff_getElem?.1 hx
     obtain⟨z,cs',hz,_,_,hb⟩:=hpl i x hi;refine hb m ?_;have h1:=DP (List.mem_map_of_mem (f:=(·.1)) (List.mem_of_getElem? hz));simp only[BK,Go.Proofs.YtdlijlecpopadaaGreatDoor.Rows.uptoBulk]at hm h1 ⊢;omega
theorem fld{fuel o m:Nat}{cs:List Value}{z:DataW H×List MemPlace}(hc:P.cellsOf t=m)(h:DataW.trod e P w 0 (fun _=>true) true fuel t ((cs.drop o).take (P.cellsOf t))=some z):DataW.trod e P w 0 (fun _=>true) true fuel t ((cs.drop o).take m)=some z:=hc▸h
theorem aZ{S:Sg}{a b:List AV}{cs:List Value}{o m:Nat}(h:aS S w a ((cs.drop o).take m))(h':aS S w b (cs.drop (o+m))):aS S w (a++b) (cs.drop o):=by
 have:=cZ a b _ _ h h'
 rwa [←List.drop_drop,List.take_append_drop]at this
theorem nR{S:Sg}{cs:List Value}{o:Nat}(h:cs.length=o):aS S w [] (cs.drop o):=by
 rw[List.drop_eq_nil_of_le (by omega)];simp[aS]
theorem bJ{cs:List Value}{o m:Nat}(h:∀u∈(cs.drop o).take m,u.oneCell'=true)(h':∀u∈cs.drop (o+m),u.oneCell'=true):∀u∈cs.drop o,u.oneCell'=true:=by
 intro u hu;rw[←List.take_append_drop m (cs.drop o),List.drop_drop]at hu;rcases List.mem_append.1 hu with hu|hu
 · exact h u hu
 · exact h' u hu
theorem qJ{cs:List Value}{o:Nat}(h:cs.length=o):∀u∈cs.drop o,u.oneCell'=true:=by
 rw[List.drop_eq_nil_of_le (by omega)];simp
theorem aR{xs:List (DataW H×List MemPlace)}{i:Nat}{z:DataW H×List MemPlace}(hz:xs[i]?=some z){n:Nat}(h:BK H (.agg (xs.map (·.1)))≤n):BK H z.1≤n:=by
 have h1:=DP (List.mem_map_of_mem (f:=(·.1)) (List.mem_of_getElem? hz));simp only[BK,Go.Proofs.YtdlijlecpopadaaGreatDoor.Rows.uptoBulk]at h h1 ⊢;omega
theorem bI{α:Type}{xs:List α}{n i:Nat}(h:xs.length=n)(hi:i<n):∃z,xs[i]?=some z:=⟨xs[i],List.getElem?_eq_getElem (by omega)⟩
end
section
open Go.Proofs Go.Proofs.YtdlijlecpopadaaGreatDoor
variable{H:Type}{e:TypeId×Value→H}{w:World}
theorem UC:Rd e (BK H) Tryz.prog w 22 (fun l:List ByteArray=>[.sl (l.map cV)]) (bL HF):=nX (sz:=1) Tryz.underlying22 (by kernel_rfl) (by omega) (fun _=>rfl) (Gy Tryz.underlying9)
def FE(n:Nat)(x:Point):Prop:=jX n x.t∧jX n x.a
theorem Q9:Rd e (BK H) Tryz.prog w 136 bR FE:=by
 intro fuel cs y h;obtain⟨xs,n,rfl,rfl,hl,hxl,hf⟩:=DataW.trod_struct Tryz.underlying136 h;have hxl:xs.length=2:=hxl;have hl:cs.length=2:=hl.trans (by kernel_rfl);obtain⟨z0,hz0⟩:=bI hxl (show 0<2 by omega);obtain⟨x0,⟨r0,o0⟩,b0⟩:=(eV Tryz.underlying3:Rd e (BK H) Tryz.prog w 3 _ _) n ((cs.drop 0).take 1) z0 (fld (t:=3) (o:=0) (m:=1) (by kernel_rfl) ((hf 0 _ rfl).trans hz0));obtain⟨z1,hz1⟩:=bI hxl (show 1<2 by omega);obtain⟨x1,⟨r1,o1⟩,b1⟩:=(eV Tryz.underlying3:Rd e (BK H) Tryz.prog w 3 _ _) n ((cs.drop 1).take 1) z1 (fld (t:=3) (o:=1) (m:=1) (by kernel_rfl) ((hf 1 _ rfl).trans hz1));refine⟨⟨x0,x1⟩,⟨?_,?_⟩,fun m hm=>⟨b0 m (aR hz0 hm),b1 m (aR hz1 hm)⟩⟩
 · have:=aZ (o:=0) (m:=1) r0 (aZ (o:=1) (m:=1) r1 (nR (by omega)))
   rw[List.drop_zero]at this;exact this
 · have:=bJ (o:=0) (m:=1) o0 (bJ (o:=1) (m:=1) o1 (qJ (by omega)))
   rw[List.drop_zero]at this;exact this
theorem Ek:Rd e (BK H) Tryz.prog w 137 (fun l:List Point=>[.sl (l.map bR)]) (bL FE):=nX (sz:=2) Tryz.underlying137 (by kernel_rfl) (by omega) (fun _=>rfl) (Q9)
def XC(n:Nat)(x:Arc):Prop:=jX n x.src∧jX n x.dst∧jX n x.profile∧jX n x.miles∧(bL FE) n x.travel∧(bL FE) n x.slow
theorem Xm:Rd e (BK H) Tryz.prog w 139 fC XC:=by
 intro fuel cs y h;obtain⟨xs,n,rfl,rfl,hl,hxl,hf⟩:=DataW.trod_struct Tryz.underlying139 h;have hxl:xs.length=6:=hxl;have hl:cs.length=6:=hl.trans (by kernel_rfl);obtain⟨z0,hz0⟩:=bI hxl (show 0<6 by omega);obtain⟨x0,⟨r0,o0⟩,b0⟩:=(eV Tryz.underlying3:Rd e (BK H) Tryz.prog w 3 _ _) n ((cs.drop 0).take 1) z0 (fld (t:=3) (o:=0) (m:=1) (by kernel_rfl) ((hf 0 _ rfl).trans hz0));obtain⟨z1,hz1⟩:=bI hxl (show 1<6 by omega);obtain⟨x1,⟨r1,o1⟩,b1⟩:=(eV Tryz.underlying3:Rd e (BK H) Tryz.prog w 3 _ _) n ((cs.drop 1).take 1) z1 (fld (t:=3) (o:=1) (m:=1) (by kernel_rfl) ((hf 1 _ rfl).trans hz1));obtain⟨z2,hz2⟩:=bI hxl (show 2<6 by omega);obtain⟨x2,⟨r2,o2⟩,b2⟩:=(eV Tryz.underlying3:Rd e (BK H) Tryz.prog w 3 _ _) n ((cs.drop 2).take 1) z2 (fld (t:=3) (o:=2) (m:=1) (by kernel_rfl) ((hf 2 _ rfl).trans hz2));obtain⟨z3,hz3⟩:=bI hxl (show 3<6 by omega);obtain⟨x3,⟨r3,o3⟩,b3⟩:=(eV Tryz.underlying3:Rd e (BK H) Tryz.prog w 3 _ _) n ((cs.drop 3).take 1) z3 (fld (t:=3) (o:=3) (m:=1) (by kernel_rfl) ((hf 3 _ rfl).trans hz3));obtain⟨z4,hz4⟩:=bI hxl (show 4<6 by omega);obtain⟨x4,⟨r4,o4⟩,b4⟩:=(Ek:Rd e (BK H) Tryz.prog w 137 _ _) n ((cs.drop 4).take 1) z4 (fld (t:=137) (o:=4) (m:=1) (by kernel_rfl) ((hf 4 _ rfl).trans hz4));obtain⟨z5,hz5⟩:=bI hxl (show 5<6 by omega);obtain⟨x5,⟨r5,o5⟩,b5⟩:=(Ek:Rd e (BK H) Tryz.prog w 137 _ _) n ((cs.drop 5).take 1) z5 (fld (t:=137) (o:=5) (m:=1) (by kernel_rfl) ((hf 5 _ rfl).trans hz5));refine⟨⟨x0,x1,x2,x3,x4,x5⟩,⟨?_,?_⟩,fun m hm=>⟨b0 m (aR hz0 hm),b1 m (aR hz1 hm),b2 m (aR hz2 hm),b3 m (aR hz3 hm),b4 m (aR hz4 hm),b5 m (aR hz5 hm)⟩⟩
 · have:=aZ (o:=0) (m:=1) r0 (aZ (o:=1) (m:=1) r1 (aZ (o:=2) (m:=1) r2 (aZ (o:=3) (m:=1) r3 (aZ (o:=4) (m:=1) r4 (aZ (o:=5) (m:=1) r5 (nR (by omega)))))))
   rw[List.drop_zero]at this;exact this
 · have:=bJ (o:=0) (m:=1) o0 (bJ (o:=1) (m:=1) o1 (bJ (o:=2) (m:=1) o2 (bJ (o:=3) (m:=1) o3 (bJ (o:=4) (m:=1) o4 (bJ (o:=5) (m:=1) o5 (qJ (by omega)))))))
   rw[List.drop_zero]at this;exact this
theorem TR:Rd e (BK H) Tryz.prog w 23 (fun l:List Arc=>[.sl (l.map fC)]) (bL XC):=nX (sz:=6) Tryz.underlying23 (by kernel_rfl) (by omega) (fun _=>rfl) (Xm)
def IH(n:Nat)(x:Network):Prop:=(bL HF) n x.places∧(bL XC) n x.arcs
theorem LA:Rd e (BK H) Tryz.prog w 25 aP IH:=by
 intro fuel cs y h;obtain⟨xs,n,rfl,rfl,hl,hxl,hf⟩:=DataW.trod_struct Tryz.underlying25 h;have hxl:xs.length=2:=hxl;have hl:cs.length=2:=hl.trans (by kernel_rfl);obtain⟨z0,hz0⟩:=bI hxl (show 0<2 by omega);obtain⟨x0,⟨r0,o0⟩,b0⟩:=(UC:Rd e (BK H) Tryz.prog w 22 _ _) n ((cs.drop 0).take 1) z0 (fld (t:=22) (o:=0) (m:=1) (by kernel_rfl) ((hf 0 _ rfl).trans hz0));obtain⟨z1,hz1⟩:=bI hxl (show 1<2 by omega);obtain⟨x1,⟨r1,o1⟩,b1⟩:=(TR:Rd e (BK H) Tryz.prog w 23 _ _) n ((cs.drop 1).take 1) z1 (fld (t:=23) (o:=1) (m:=1) (by kernel_rfl) ((hf 1 _ rfl).trans hz1));refine⟨⟨x0,x1⟩,⟨?_,?_⟩,fun m hm=>⟨b0 m (aR hz0 hm),b1 m (aR hz1 hm)⟩⟩
 · have:=aZ (o:=0) (m:=1) r0 (aZ (o:=1) (m:=1) r1 (nR (by omega)))
   rw[List.drop_zero]at this;exact this
 · have:=bJ (o:=0) (m:=1) o0 (bJ (o:=1) (m:=1) o1 (qJ (by omega)))
   rw[List.drop_zero]at this;exact this
theorem Fz:Rd e (BK H) Tryz.prog w 31 (fun l:List Int=>[.sl (l.map aM)]) (bL jX):=nX (sz:=1) Tryz.underlying31 (by kernel_rfl) (by omega) (fun _=>rfl) (eV Tryz.underlying3)
def K5(n:Nat)(x:VType):Prop:=HF n x.name∧jX n x.count∧jX n x.src∧jX n x.dst∧(bL jX) n x.cap∧jX n x.skills∧jX n x.profile∧jX n x.start∧jX n x.close∧jX n x.drive∧jX n x.rest∧jX n x.fixed∧jX n x.perMile∧jX n x.perTick
theorem SZ:Rd e (BK H) Tryz.prog w 87 bE K5:=by
 intro fuel cs y h;obtain⟨xs,n,rfl,rfl,hl,hxl,hf⟩:=DataW.trod_struct Tryz.underlying87 h;have hxl:xs.length=14:=hxl;have hl:cs.length=14:=hl.trans (by kernel_rfl);obtain⟨z0,hz0⟩:=bI hxl (show 0<14 by omega);obtain⟨x0,⟨r0,o0⟩,b0⟩:=(Gy Tryz.underlying9:Rd e (BK H) Tryz.prog w 9 _ _) n ((cs.drop 0).take 1) z0 (fld (t:=9) (o:=0) (m:=1) (by kernel_rfl) ((hf 0 _ rfl).trans hz0));obtain⟨z1,hz1⟩:=bI hxl (show 1<14 by omega);obtain⟨x1,⟨r1,o1⟩,b1⟩:=(eV Tryz.underlying3:Rd e (BK H) Tryz.prog w 3 _ _) n ((cs.drop 1).take 1) z1 (fld (t:=3) (o:=1) (m:=1) (by kernel_rfl) ((hf 1 _ rfl).trans hz1));obtain⟨z2,hz2⟩:=bI hxl (show 2<14 by omega);obtain⟨x2,⟨r2,o2⟩,b2⟩:=(eV Tryz.underlying3:Rd e (BK H) Tryz.prog w 3 _ _) n ((cs.drop 2).take 1) z2 (fld (t:=3) (o:=2) (m:=1) (by kernel_rfl) ((hf 2 _ rfl).trans hz2));obtain⟨z3,hz3⟩:=bI hxl (show 3<14 by omega);obtain⟨x3,⟨r3,o3⟩,b3⟩:=(eV Tryz.underlying3:Rd e (BK H) Tryz.prog w 3 _ _) n ((cs.drop 3).take 1) z3 (fld (t:=3) (o:=3) (m:=1) (by kernel_rfl) ((hf 3 _ rfl).trans hz3));obtain⟨z4,hz4⟩:=bI hxl (show 4<14 by omega);obtain⟨x4,⟨r4,o4⟩,b4⟩:=(Fz:Rd e (BK H) Tryz.prog w 31 _ _) n ((cs.drop 4).take 1) z4 (fld (t:=31) (o:=4) (m:=1) (by kernel_rfl) ((hf 4 _ rfl).trans hz4));obtain⟨z5,hz5⟩:=bI hxl (show 5<14 by omega);obtain⟨x5,⟨r5,o5⟩,b5⟩:=(eV Tryz.underlying3:Rd e (BK H) Tryz.prog w 3 _ _) n ((cs.drop 5).take 1) z5 (fld (t:=3) (o:=5) (m:=1) (by kernel_rfl) ((hf 5 _ rfl).trans hz5));obtain⟨z6,hz6⟩:=bI hxl (show 6<14 by omega);obtain⟨x6,⟨r6,o6⟩,b6⟩:=(eV Tryz.underlying3:Rd e (BK H) Tryz.prog w 3 _ _) n ((cs.drop 6).take 1) z6 (fld (t:=3) (o:=6) (m:=1) (by kernel_rfl) ((hf 6 _ rfl).trans hz6));obtain⟨z7,hz7⟩:=bI hxl (show 7<14 by omega);obtain⟨x7,⟨r7,o7⟩,b7⟩:=(eV Tryz.underlying3:Rd e (BK H) Tryz.prog w 3 _ _) n ((cs.drop 7).take 1) z7 (fld (t:=3) (o:=7) (m:=1) (by kernel_rfl) ((hf 7 _ rfl).trans hz7));obtain⟨z8,hz8⟩:=bI hxl (show 8<14 by omega);obtain⟨x8,⟨r8,o8⟩,b8⟩:=(eV Tryz.underlying3:Rd e (BK H) Tryz.prog w 3 _ _) n ((cs.drop 8).take 1) z8 (fld (t:=3) (o:=8) (m:=1) (by kernel_rfl) ((hf 8 _ rfl).trans hz8));obtain⟨z9,hz9⟩:=bI hxl (show 9<14 by omega);obtain⟨x9,⟨r9,o9⟩,b9⟩:=(eV Tryz.underlying3:Rd e (BK H) Tryz.prog w 3 _ _) n ((cs.drop 9).take 1) z9 (fld (t:=3) (o:=9) (m:=1) (by kernel_rfl) ((hf 9 _ rfl).trans hz9));obtain⟨z10,hz10⟩:=bI hxl (show 10<14 by omega);obtain⟨x10,⟨r10,o10⟩,b10⟩:=(eV Tryz.underlying3:Rd e (BK H) Tryz.prog w 3 _ _) n ((cs.drop 10).take 1) z10 (fld (t:=3) (o:=10) (m:=1) (by kernel_rfl) ((hf 10 _ rfl).trans hz10));obtain⟨z11,hz11⟩:=bI hxl (show 11<14 by omega);obtain⟨x11,⟨r11,o11⟩,b11⟩:=(eV Tryz.underlying3:Rd e (BK H) Tryz.prog w 3 _ _) n ((cs.drop 11).take 1) z11 (fld (t:=3) (o:=11) (m:=1) (by kernel_rfl) ((hf 11 _ rfl).trans hz11));obtain⟨z12,hz12⟩:=bI hxl (show 12<14 by omega);obtain⟨x12,⟨r12,o12⟩,b12⟩:=(eV Tryz.underlying3:Rd e (BK H) Tryz.prog w 3 _ _) n ((cs.drop 12).take 1) z12 (fld (t:=3) (o:=12) (m:=1) (by kernel_rfl) ((hf 12 _ rfl).trans hz12));obtain⟨z13,hz13⟩:=bI hxl (show 13<14 by omega);obtain⟨x13,⟨r13,o13⟩,b13⟩:=(eV Tryz.underlying3:Rd e (BK H) Tryz.prog w 3 _ _) n ((cs.drop 13).take 1) z13 (fld (t:=3) (o:=13) (m:=1) (by kernel_rfl) ((hf 13 _ rfl).trans hz13));refine⟨⟨x0,x1,x2,x3,x4,x5,x6,x7,x8,x9,x10,x11,x12,x13⟩,⟨?_,?_⟩,fun m hm=>⟨b0 m (aR hz0 hm),b1 m (aR hz1 hm),b2 m (aR hz2 hm),b3 m (aR hz3 hm),b4 m (aR hz4 hm),b5 m (aR hz5 hm),b6 m (aR hz6 hm),b7 m (aR hz7 hm),b8 m (aR hz8 hm),b9 m (aR hz9 hm),b10 m (aR hz10 hm),b11 m (aR hz11 hm),b12 m (aR hz12 hm),b13 m (aR hz13 hm)⟩⟩
 · have:=aZ (o:=0) (m:=1) r0 (aZ (o:=1) (m:=1) r1 (aZ (o:=2) (m:=1) r2 (aZ (o:=3) (m:=1) r3 (aZ (o:=4) (m:=1) r4 (aZ (o:=5) (m:=1) r5 (aZ (o:=6) (m:=1) r6 (aZ (o:=7) (m:=1) r7 (aZ (o:=8) (m:=1) r8 (aZ (o:=9) (m:=1) r9 (aZ (o:=10) (m:=1) r10 (aZ (o:=11) (m:=1) r11 (aZ (o:=12) (m:=1) r12 (aZ (o:=13) (m:=1) r13 (nR (by omega)))))))))))))))
   rw[List.drop_zero]at this;exact this
 · have:=bJ (o:=0) (m:=1) o0 (bJ (o:=1) (m:=1) o1 (bJ (o:=2) (m:=1) o2 (bJ (o:=3) (m:=1) o3 (bJ (o:=4) (m:=1) o4 (bJ (o:=5) (m:=1) o5 (bJ (o:=6) (m:=1) o6 (bJ (o:=7) (m:=1) o7 (bJ (o:=8) (m:=1) o8 (bJ (o:=9) (m:=1) o9 (bJ (o:=10) (m:=1) o10 (bJ (o:=11) (m:=1) o11 (bJ (o:=12) (m:=1) o12 (bJ (o:=13) (m:=1) o13 (qJ (by omega)))))))))))))))
   rw[List.drop_zero]at this;exact this
theorem O4:Rd e (BK H) Tryz.prog w 26 (fun l:List VType=>[.sl (l.map bE)]) (bL K5):=nX (sz:=14) Tryz.underlying26 (by kernel_rfl) (by omega) (fun _=>rfl) (SZ)
def SS(n:Nat)(x:Stop):Prop:=jX n x.place∧jX n x.start∧jX n x.close∧jX n x.service
theorem MV:Rd e (BK H) Tryz.prog w 141 iA SS:=by
 intro fuel cs y h;obtain⟨xs,n,rfl,rfl,hl,hxl,hf⟩:=DataW.trod_struct Tryz.underlying141 h;have hxl:xs.length=4:=hxl;have hl:cs.length=4:=hl.trans (by kernel_rfl);obtain⟨z0,hz0⟩:=bI hxl (show 0<4 by omega);obtain⟨x0,⟨r0,o0⟩,b0⟩:=(eV Tryz.underlying3:Rd e (BK H) Tryz.prog w 3 _ _) n ((cs.drop 0).take 1) z0 (fld (t:=3) (o:=0) (m:=1) (by kernel_rfl) ((hf 0 _ rfl).trans hz0));obtain⟨z1,hz1⟩:=bI hxl (show 1<4 by omega);obtain⟨x1,⟨r1,o1⟩,b1⟩:=(eV Tryz.underlying3:Rd e (BK H) Tryz.prog w 3 _ _) n ((cs.drop 1).take 1) z1 (fld (t:=3) (o:=1) (m:=1) (by kernel_rfl) ((hf 1 _ rfl).trans hz1));obtain⟨z2,hz2⟩:=bI hxl (show 2<4 by omega);obtain⟨x2,⟨r2,o2⟩,b2⟩:=(eV Tryz.underlying3:Rd e (BK H) Tryz.prog w 3 _ _) n ((cs.drop 2).take 1) z2 (fld (t:=3) (o:=2) (m:=1) (by kernel_rfl) ((hf 2 _ rfl).trans hz2));obtain⟨z3,hz3⟩:=bI hxl (show 3<4 by omega);obtain⟨x3,⟨r3,o3⟩,b3⟩:=(eV Tryz.underlying3:Rd e (BK H) Tryz.prog w 3 _ _) n ((cs.drop 3).take 1) z3 (fld (t:=3) (o:=3) (m:=1) (by kernel_rfl) ((hf 3 _ rfl).trans hz3));refine⟨⟨x0,x1,x2,x3⟩,⟨?_,?_⟩,fun m hm=>⟨b0 m (aR hz0 hm),b1 m (aR hz1 hm),b2 m (aR hz2 hm),b3 m (aR hz3 hm)⟩⟩
 · have:=aZ (o:=0) (m:=1) r0 (aZ (o:=1) (m:=1) r1 (aZ (o:=2) (m:=1) r2 (aZ (o:=3) (m:=1) r3 (nR (by omega)))))
   rw[List.drop_zero]at this;exact this
 · have:=bJ (o:=0) (m:=1) o0 (bJ (o:=1) (m:=1) o1 (bJ (o:=2) (m:=1) o2 (bJ (o:=3) (m:=1) o3 (qJ (by omega)))))
   rw[List.drop_zero]at this;exact this
def LT(n:Nat)(x:Order):Prop:=HF n x.name∧(bL jX) n x.load∧SS n x.pick∧SS n x.drop∧jX n x.skills∧jX n x.penalty∧jX n x.split∧jX n x.last∧jX n x.now∧V2 n x.off
theorem SH:Rd e (BK H) Tryz.prog w 143 aX LT:=by
 intro fuel cs y h;obtain⟨xs,n,rfl,rfl,hl,hxl,hf⟩:=DataW.trod_struct Tryz.underlying143 h;have hxl:xs.length=10:=hxl;have hl:cs.length=16:=hl.trans (by kernel_rfl);obtain⟨z0,hz0⟩:=bI hxl (show 0<10 by omega);obtain⟨x0,⟨r0,o0⟩,b0⟩:=(Gy Tryz.underlying9:Rd e (BK H) Tryz.prog w 9 _ _) n ((cs.drop 0).take 1) z0 (fld (t:=9) (o:=0) (m:=1) (by kernel_rfl) ((hf 0 _ rfl).trans hz0));obtain⟨z1,hz1⟩:=bI hxl (show 1<10 by omega);obtain⟨x1,⟨r1,o1⟩,b1⟩:=(Fz:Rd e (BK H) Tryz.prog w 31 _ _) n ((cs.drop 1).take 1) z1 (fld (t:=31) (o:=1) (m:=1) (by kernel_rfl) ((hf 1 _ rfl).trans hz1));obtain⟨z2,hz2⟩:=bI hxl (show 2<10 by omega);obtain⟨x2,⟨r2,o2⟩,b2⟩:=(MV:Rd e (BK H) Tryz.prog w 141 _ _) n ((cs.drop 2).take 4) z2 (fld (t:=141) (o:=2) (m:=4) (by kernel_rfl) ((hf 2 _ rfl).trans hz2));obtain⟨z3,hz3⟩:=bI hxl (show 3<10 by omega);obtain⟨x3,⟨r3,o3⟩,b3⟩:=(MV:Rd e (BK H) Tryz.prog w 141 _ _) n ((cs.drop 6).take 4) z3 (fld (t:=141) (o:=6) (m:=4) (by kernel_rfl) ((hf 3 _ rfl).trans hz3));obtain⟨z4,hz4⟩:=bI hxl (show 4<10 by omega);obtain⟨x4,⟨r4,o4⟩,b4⟩:=(eV Tryz.underlying3:Rd e (BK H) Tryz.prog w 3 _ _) n ((cs.drop 10).take 1) z4 (fld (t:=3) (o:=10) (m:=1) (by kernel_rfl) ((hf 4 _ rfl).trans hz4));obtain⟨z5,hz5⟩:=bI hxl (show 5<10 by omega);obtain⟨x5,⟨r5,o5⟩,b5⟩:=(eV Tryz.underlying3:Rd e (BK H) Tryz.prog w 3 _ _) n ((cs.drop 11).take 1) z5 (fld (t:=3) (o:=11) (m:=1) (by kernel_rfl) ((hf 5 _ rfl).trans hz5));obtain⟨z6,hz6⟩:=bI hxl (show 6<10 by omega);obtain⟨x6,⟨r6,o6⟩,b6⟩:=(eV Tryz.underlying3:Rd e (BK H) Tryz.prog w 3 _ _) n ((cs.drop 12).take 1) z6 (fld (t:=3) (o:=12) (m:=1) (by kernel_rfl) ((hf 6 _ rfl).trans hz6));obtain⟨z7,hz7⟩:=bI hxl (show 7<10 by omega);obtain⟨x7,⟨r7,o7⟩,b7⟩:=(eV Tryz.underlying3:Rd e (BK H) Tryz.prog w 3 _ _) n ((cs.drop 13).take 1) z7 (fld (t:=3) (o:=13) (m:=1) (by kernel_rfl) ((hf 7 _ rfl).trans hz7));obtain⟨z8,hz8⟩:=bI hxl (show 8<10 by omega);obtain⟨x8,⟨r8,o8⟩,b8⟩:=(eV Tryz.underlying3:Rd e (BK H) Tryz.prog w 3 _ _) n ((cs.drop 14).take 1) z8 (fld (t:=3) (o:=14) (m:=1) (by kernel_rfl) ((hf 8 _ rfl).trans hz8));obtain⟨z9,hz9⟩:=bI hxl (show 9<10 by omega);obtain⟨x9,⟨r9,o9⟩,b9⟩:=(Ug Tryz.underlying4:Rd e (BK H) Tryz.prog w 4 _ _) n ((cs.drop 15).take 1) z9 (fld (t:=4) (o:=15) (m:=1) (by kernel_rfl) ((hf 9 _ rfl).trans hz9));refine⟨⟨x0,x1,x2,x3,x4,x5,x6,x7,x8,x9⟩,⟨?_,?_⟩,fun m hm=>⟨b0 m (aR hz0 hm),b1 m (aR hz1 hm),b2 m (aR hz2 hm),b3 m (aR hz3 hm),b4 m (aR hz4 hm),b5 m (aR hz5 hm),b6 m (aR hz6 hm),b7 m (aR hz7 hm),b8 m (aR hz8 hm),b9 m (aR hz9 hm)⟩⟩
 · have:=aZ (o:=0) (m:=1) r0 (aZ (o:=1) (m:=1) r1 (aZ (o:=2) (m:=4) r2 (aZ (o:=6) (m:=4) r3 (aZ (o:=10) (m:=1) r4 (aZ (o:=11) (m:=1) r5 (aZ (o:=12) (m:=1) r6 (aZ (o:=13) (m:=1) r7 (aZ (o:=14) (m:=1) r8 (aZ (o:=15) (m:=1) r9 (nR (by omega)))))))))))
   rw[List.drop_zero]at this;exact this
 · have:=bJ (o:=0) (m:=1) o0 (bJ (o:=1) (m:=1) o1 (bJ (o:=2) (m:=4) o2 (bJ (o:=6) (m:=4) o3 (bJ (o:=10) (m:=1) o4 (bJ (o:=11) (m:=1) o5 (bJ (o:=12) (m:=1) o6 (bJ (o:=13) (m:=1) o7 (bJ (o:=14) (m:=1) o8 (bJ (o:=15) (m:=1) o9 (qJ (by omega)))))))))))
   rw[List.drop_zero]at this;exact this
theorem Ob:Rd e (BK H) Tryz.prog w 27 (fun l:List Order=>[.sl (l.map aX)]) (bL LT):=nX (sz:=16) Tryz.underlying27 (by kernel_rfl) (by omega) (fun _=>rfl) (SH)
def NG(n:Nat)(x:Pair):Prop:=jX n x.a∧jX n x.b
theorem Tz:Rd e (BK H) Tryz.prog w 192 fO NG:=by
 intro fuel cs y h;obtain⟨xs,n,rfl,rfl,hl,hxl,hf⟩:=DataW.trod_array Tryz.underlying192 h;have hl:cs.length=2:=hl.trans (by kernel_rfl);obtain⟨z0,hz0⟩:=bI hxl (show 0<2 by omega);obtain⟨x0,⟨r0,o0⟩,b0⟩:=(eV Tryz.underlying3:Rd e (BK H) Tryz.prog w 3 _ _) n ((cs.drop 0).take 1) z0 (fld (t:=3) (o:=0) (m:=1) (by kernel_rfl) ((hf 0 (by omega)).trans hz0));obtain⟨z1,hz1⟩:=bI hxl (show 1<2 by omega);obtain⟨x1,⟨r1,o1⟩,b1⟩:=(eV Tryz.underlying3:Rd e (BK H) Tryz.prog w 3 _ _) n ((cs.drop 1).take 1) z1 (fld (t:=3) (o:=1) (m:=1) (by kernel_rfl) ((hf 1 (by omega)).trans hz1));refine⟨⟨x0,x1⟩,⟨?_,?_⟩,fun m hm=>⟨b0 m (aR hz0 hm),b1 m (aR hz1 hm)⟩⟩
 · have:=aZ (o:=0) (m:=1) r0 (aZ (o:=1) (m:=1) r1 (nR (by omega)))
   rw[List.drop_zero]at this;exact this
 · have:=bJ (o:=0) (m:=1) o0 (bJ (o:=1) (m:=1) o1 (qJ (by omega)))
   rw[List.drop_zero]at this;exact this
theorem Hi:Rd e (BK H) Tryz.prog w 28 (fun l:List Pair=>[.sl (l.map fO)]) (bL NG):=nX (sz:=2) Tryz.underlying28 (by kernel_rfl) (by omega) (fun _=>rfl) (Tz)
def zZ(n:Nat)(x:Instance):Prop:=IH n x.net∧(bL K5) n x.types∧(bL LT) n x.orders∧(bL NG) n x.apart∧(bL NG) n x.before
theorem HE:Rd e (BK H) Tryz.prog w 30 aQ zZ:=by
 intro fuel cs y h;obtain⟨xs,n,rfl,rfl,hl,hxl,hf⟩:=DataW.trod_struct Tryz.underlying30 h;have hxl:xs.length=5:=hxl;have hl:cs.length=6:=hl.trans (by kernel_rfl);obtain⟨z0,hz0⟩:=bI hxl (show 0<5 by omega);obtain⟨x0,⟨r0,o0⟩,b0⟩:=(LA:Rd e (BK H) Tryz.prog w 25 _ _) n ((cs.drop 0).take 2) z0 (fld (t:=25) (o:=0) (m:=2) (by kernel_rfl) ((hf 0 _ rfl).trans hz0));obtain⟨z1,hz1⟩:=bI hxl (show 1<5 by omega);obtain⟨x1,⟨r1,o1⟩,b1⟩:=(O4:Rd e (BK H) Tryz.prog w 26 _ _) n ((cs.drop 2).take 1) z1 (fld (t:=26) (o:=2) (m:=1) (by kernel_rfl) ((hf 1 _ rfl).trans hz1));obtain⟨z2,hz2⟩:=bI hxl (show 2<5 by omega);obtain⟨x2,⟨r2,o2⟩,b2⟩:=(Ob:Rd e (BK H) Tryz.prog w 27 _ _) n ((cs.drop 3).take 1) z2 (fld (t:=27) (o:=3) (m:=1) (by kernel_rfl) ((hf 2 _ rfl).trans hz2));obtain⟨z3,hz3⟩:=bI hxl (show 3<5 by omega);obtain⟨x3,⟨r3,o3⟩,b3⟩:=(Hi:Rd e (BK H) Tryz.prog w 28 _ _) n ((cs.drop 4).take 1) z3 (fld (t:=28) (o:=4) (m:=1) (by kernel_rfl) ((hf 3 _ rfl).trans hz3));obtain⟨z4,hz4⟩:=bI hxl (show 4<5 by omega);obtain⟨x4,⟨r4,o4⟩,b4⟩:=(Hi:Rd e (BK H) Tryz.prog w 28 _ _) n ((cs.drop 5).take 1) z4 (fld (t:=28) (o:=5) (m:=1) (by kernel_rfl) ((hf 4 _ rfl).trans hz4));refine⟨⟨x0,x1,x2,x3,x4⟩,⟨?_,?_⟩,fun m hm=>⟨b0 m (aR hz0 hm),b1 m (aR hz1 hm),b2 m (aR hz2 hm),b3 m (aR hz3 hm),b4 m (aR hz4 hm)⟩⟩
 · have:=aZ (o:=0) (m:=2) r0 (aZ (o:=2) (m:=1) r1 (aZ (o:=3) (m:=1) r2 (aZ (o:=4) (m:=1) r3 (aZ (o:=5) (m:=1) r4 (nR (by omega))))))
   rw[List.drop_zero]at this;exact this
 · have:=bJ (o:=0) (m:=2) o0 (bJ (o:=2) (m:=1) o1 (bJ (o:=3) (m:=1) o2 (bJ (o:=4) (m:=1) o3 (bJ (o:=5) (m:=1) o4 (qJ (by omega))))))
   rw[List.drop_zero]at this;exact this
end
end Go.Aw.D
end
section
namespace Go.Proofs.YtdlijlecpopadaaGreatDoor
open Go.Aw Go.Aw.D Go.Proofs Go.RowKit Go.ChangeShapes Go.WideShapes Go.ChangeAt
section
variable{H:Type}{e:TypeId×Value→H}{P:Program}{W W':World}
theorem HO{f:FuncId}{args:List AV}{vals:List Value}(h:PC P f args (.v (.bool true)))(ht:F6 W)(ha:aS (Sw W) W args vals):
   Calls P f vals.toArray W fun en W'=>en=.returned (.bool true)∧Below W.heap.size W W':=
 (h (Sw W) W vals (abC W ht) (fun _ h=>h) ha).mono fun en W' ⟨v,r,H',S',he,hr,_,hv,hg,_⟩=>by
   subst hr;simp only[rep]at hv;subst hv;exact⟨he,hg.os,hg.tape,hg.output,hg.size,hg.same⟩
theorem xG(hl:laidOutB P=true)(hb:Below W.heap.size W W'):∀{ts:List TypeId} {vs:List Value} {ds:List (DataW H)} {ps:List MemPlace},(∀t∈ts,P.readableRec t=true∧t<P.types.size) →
   DataW.TrodAll e P W 0 (fun _=>true) true ts vs ds ps→(∀x∈ps,x.block<W.heap.size)→∀sp:Nat→Bool,(∀x∈ps,sp x.block=true)→DataW.TrodAll e P W' 0 sp true ts vs ds ps
 | [],[],[],_,_,h,_,_,_=>h
 | t::ts,v::vs,d::ds,ps,ht,⟨p,q,h1,h2,he⟩,hlt,sp,hs=>by
   subst he;have h0:=ht t (by simp);exact⟨p,q,WideElems.Trod_stays hl h0.1 h0.2 h1 (fun x hx=>hb.same (hlt x (by simp[hx]))) (fun x hx=>hs x (by simp[hx])),
     xG hl hb (fun t ht'=>ht t (by simp[ht'])) h2 (fun x hx=>hlt x (by simp[hx])) sp (fun x hx=>hs x (by simp[hx])),rfl⟩
theorem Kk{t:TypeId}{fs:Array Field}{α:Type}{enc:α→List AV}{b:Nat→α→Prop}{r:Reach}{b0:Nat}{v:Value}{d:DataW H}{ps:List MemPlace}(ht:P.underlying t=some (.struct fs))
   (hr:Rd e (BK H) P W t enc b) (hval:Value.okWide P W r b0 t v) (hd:DataW.Trod e P W 0 (fun _=>true) true t v d ps):∃x:α,rep (Sw W) W (.agg (enc x)) v∧∀n,BK H d≤n→b n x:=by
 obtain⟨cs,rfl,_⟩:=okWide_struct ht hval;obtain⟨fuel,h⟩:=hd;obtain⟨x,⟨h1,h2⟩,h3⟩:=hr fuel _ _ h;refine⟨x,?_,h3⟩;simp only[rep];exact⟨cs.toList,by simp,h1,h2⟩
theorem E1{t et:TypeId}{α:Type}{enc:α→List AV}{b:Nat→List α→Prop}{r:Reach}{b0:Nat}{v:Value}{d:DataW H}{ps:List MemPlace}(ht:P.underlying t=some (.slice et))
   (hr:Rd e (BK H) P W t (fun l:List α=>[.sl (l.map enc)]) b) (hval:Value.okWide P W r b0 t v) (hd:DataW.Trod e P W 0 (fun _=>true) true t v d ps):∃x:List α,rep (Sw W) W (.sl (x.map enc)) v∧∀n,BK H d≤n→b n x:=by
 obtain⟨a,len,cap,rfl⟩:=okWide_slice ht hval;obtain⟨fuel,h⟩:=hd;obtain⟨x,⟨h1,h2⟩,h3⟩:=hr fuel _ _ h;refine⟨x,?_,h3⟩;simp only[aS]at h1;obtain⟨u,tl,h4,h5,rfl⟩:=h1;have:Value.cells (.slice a len cap)=#[.slice a len cap]:=rfl;rw[this]at h4;simp at h4;subst h4;exact h5
theorem Pn{fn:Func}{s:ChangeSpec}{args:Array Value}{ds gs:List (DataW H)}{before:List MemPlace}(hl:laidOutB P=true)(hts:∀t∈fn.params.toList,P.readableRec t=true∧t<P.types.size)
   (hvars:s.vars=[]) {tb:TypeId} (hbt:P.underlying tb=some .bool) (hrt:fn.resultTypes=#[tb]) (hW:DataW.Whole e P fn.params.toList s.vars false W args.toList ds gs before)
   (hres:(s.fn H (ds++gs)).results=[.lit (.bool true)]) (hargs:(s.fn H (ds++gs)).args=ds) (hvs:(s.fn H (ds++gs)).vars=[]) (hb:Below W.heap.size W W'):
   s.post e P fn false true false false W args (.bool true) W':=by
 have hlt:=hW.lt;have hW':=hW;obtain⟨p,q,hA,hV,rfl,hfz,hnd⟩:=hW;rw[hvars]at hV;obtain⟨rfl,rfl⟩:=trodVars_none hV;have hk:W.keptBut W' (·∈p++[]):=hb.frame _;have hold:∀x∈p++[],(fun b=>decide (b<W.heap.size)) x.block=true:=fun x hx=>by simpa using hlt x hx
 have r1:∀(b:Nat) (sp:Nat→Bool) (hd:Bool),DataW.TrodAll e P W' b sp hd fn.resultTypes.toList ((Value.bool true).resultList fn.resultTypes.size) (s.fn H (ds++[])).results []:=fun b sp hd=>by
   rw[hrt,hres];exact trodAll_cons_mk (shut_bool hbt _) trodAll_mk0
 have r2:∀sp:Nat→Bool,(∀x∈p++[],sp x.block=true)→DataW.TrodAll e P W' 0 sp true fn.params.toList args.toList (s.fn H (ds++[])).args p:=fun sp hsp=>by
   rw[hargs];exact xG hl hb hts hA (fun x hx=>hlt x (by simp[hx])) sp (fun x hx=>hsp x (by simp[hx]))
 have r3:∀sp:Nat→Bool,DataW.TrodVars e P W' sp s.vars (s.fn H (ds++[])).vars []:=fun sp=>by
   rw[hvars,hvs];simp[DataW.TrodVars]
 refine⟨ds,[],p++[],[],p,[],hW',r1 _ _ _,r2 _ hold,r3 _,World.keptBut_mono (fun x hx=>⟨hx,.inr (by simpa using hx)⟩) hk,fun _=>?_⟩;refine⟨?_,_,_,([]++p)++[],⟨[]++p,[],trodAll_append (r2 _ (fun _ _=>rfl)) (r1 _ _ _),r3 _,rfl,?_,?_⟩,?_⟩
 · exact ok_one hrt rfl (okWide_bool_mk hbt _)
 · intro b off hp
   have hp':MemPlace.cell b off∈p++[]:=by simpa using hp
   rw[hb.frozen (hlt _ hp')];exact hfz b off hp'
 · intro ha;simp at ha
 · intro x hx _
   simpa using hx
end
end Go.Proofs.YtdlijlecpopadaaGreatDoor
end
section
namespace Go.Proofs.YtdlijlecpopadaaGreatDoor
def oH(n N:Int):Bool:=decide (n<0)||decide (n≥N)
end Go.Proofs.YtdlijlecpopadaaGreatDoor
namespace Go.Proofs.YtdlijlecpopadaaGreatDoor.Mv
open Go.Aw Go.Aw.D Go.Proofs Ty
theorem fF{H:aF}{k:IntKind}{a b:Int}(h:a=b):Conv H (.v (.int k a)) (.v (.int k b)):=h▸.refl _
theorem eI{H:aF}{a b:Bool}(h:a=b):Conv H (.v (.bool a)) (.v (.bool b)):=h▸.refl _
abbrev kV(l:List Int):Row:=⟨3,1,l.map aM⟩
theorem QZ{n:Int}(h:0≤n∧n<18446744073709551616):IntKind.u64.wrap n=n:=by
 have e:IntKind.u64.wrap n=n%18446744073709551616:=rfl;rw[e];omega
theorem bK{α:Type}{p:α→Prop}{l:List α}{k:Nat}{x:α}(hk:l[k]?=some x)(hx:p x)(h:∀x∈l.take k,p x):∀x∈l.take (k+1),p x:=by
 rw[cN hk];intro y hy;rcases List.mem_append.1 hy with hy|hy
 · exact h y hy
 · simp at hy;subst hy;exact hx
theorem NC.pc{f:FuncId}{args:List AV}{r:Row}(h:NC Tryz.prog f args r .os):PC Tryz.prog f args (.sl r.es):=
 RC.conv (RC.mono h fun x H' ⟨k,hx,hk⟩=>hx▸.row k r r.es hk (ConvE.refl _))
end Go.Proofs.YtdlijlecpopadaaGreatDoor.Mv
end
section
namespace Go.Proofs.YtdlijlecpopadaaGreatDoor.Sq
open Go.Aw Go.Aw.D Go.Proofs Ty
open Mv (fF eI NC.pc bK)
def acR(v u:Visit):Bool:=u.order == v.order&&(u.drop == v.drop&&true)
def pW{α:Type}(p:α→Bool):List α→Int→Int
 | [],_=> -1
 | x::r,n=>if p x=true then n else pW p r (n+1)
theorem rH{α:Type}{p:α→Bool}{l:List α}{k:Nat}{x:α}(h:∀y∈l.take k,p y=false)(hk:l[k]?=some x)(hx:p x=true):∀n,pW p l n=n+k:=by
 induction l generalizing k with
 | nil=>simp at hk
 | cons a r ih=>
   intro n;cases k with
   | zero=>simp at hk;subst hk;simp only[pW];rw[if_pos hx];simp
   | succ k=>
     have h0:=h a (by simp);simp only[pW];rw[if_neg (by rw[h0];simp),ih (k:=k) (fun y hy=>h y (by simp[hy])) (by simpa using hk)];omega
theorem oZ{α:Type}{p:α→Bool}{l:List α}(h:∀y∈l,p y=false):∀n,pW p l n= -1:=by
 induction l with
 | nil=>intro n;rfl
 | cons a r ih=>intro n;simp only[pW];rw[if_neg (by rw[h a (by simp)];simp)];exact ih (fun y hy=>h y (by simp[hy])) _
def Bh(l:List Visit)(v:Visit):Int:=pW (acR v) l 0
def KF(l s:List Visit):Bool:=s.all fun v=> !decide (Bh l v<0)
def yM(l vs:List Visit)(v:Visit):Bool:=decide (Bh vs v<0)|| !KF l vs||((vs.length:Int) == 2&&decide (Bh l (vs.getD 0 ⟨0,false⟩)>Bh l (vs.getD 1 ⟨0,false⟩)))
def aG(l:List Visit)(j:Nat):Int:=(l.getD j ⟨0,false⟩).order
def gK(a c:List Int):Bool:=((a.length:Int) == (c.length:Int))&&(List.range a.length).all fun i=> !decide (a.getD i 0>c.getD i 0)
def LI(x:Instance):Int:=match x.types[0]? with|some t=>t.cap.length|none=>0
def Vb(l:List Int):List AV:=[.sl (l.map aM)]
end Go.Proofs.YtdlijlecpopadaaGreatDoor.Sq
end
section
namespace Go.Proofs.YtdlijlecpopadaaGreatDoor.Sq
open Go.Aw Go.Aw.D Go.Proofs Ty
open Mv (fF eI NC.pc bK)
open Mv (fF eI NC.pc bK)
def FA(n:Network)(i:Int):Bool:=decide (i≥0)&&decide (i<(n.places.length:Int))
def yV:Arc:=⟨0,0,0,0,[],[]⟩
def Jp(p f t:Int)(a:Arc):Bool:=a.src == f&&a.dst == t&&a.profile == p
def lI(n:Network)(p f t:Int):Option Arc:=n.arcs.find? (Jp p f t)
theorem Ix{α:Type}{p:α→Bool}{l:List α}{k:Nat}{x:α}(h:∀y∈l.take k,p y=false)(hk:l[k]?=some x)(hx:p x=true):l.find? p=some x:=by
 induction l generalizing k with
 | nil=>simp at hk
 | cons a r ih=>
   cases k with
   | zero=>simp at hk;subst hk;simp[List.find?,hx]
   | succ k=>
     have h0:=h a (by simp);rw[List.find?_cons,h0];exact ih (k:=k) (fun y hy=>h y (by simp[hy])) (by simpa using hk)
theorem Eb{α:Type}{p:α→Bool}{l:List α}(h:∀y∈l,p y=false):l.find? p=none:=List.find?_eq_none.2 fun y hy=>by rw[h y hy];simp
def W(n:Int):Int:=IntKind.i64.wrap n
def mQ(l:List Point)(t:Int)(k:Nat):Bool:=decide ((dC l k).t≤t)&&decide (t<(dC l (k+1)).t)
def A6(p q:Point)(t:Int):Int:=W (p.a+IntKind.i64.wrap (Int.tdiv (W (W (W (W (W (t-p.t)*W (q.a-p.a))+q.t)-p.t)-1)) (W (q.t-p.t))))
def sC(e:Point)(t:Int):Int:=W (W (t+e.a)-e.t)
def wZ(l:List Point)(t:Int):Bool:=decide (((hY l).length:Int)>0)||decide (t<0)||decide (t>1073741824)
def iH(l:List Point)(t:Int):Int:=
 if wZ l t=true then 0 else match (List.range (l.length-1)).find? (mQ l t)with
 | some k=>A6 (dC l k) (dC l (k+1)) t
 | none=>if decide (t>(dC l 0).t)=true then sC (dC l (l.length-1)) t else sC (dC l 0) t
def i64B(n:Int):Prop:= -9223372036854775808≤n∧n≤9223372036854775807
theorem Vv{n:Int}(h:0<n∧n<18446744073709551616):¬IntKind.i64.wrap n=0:=by
 show ¬(if(true&&decide (n%18446744073709551616≥9223372036854775808))=true then n%18446744073709551616-18446744073709551616 else n%18446744073709551616)=0;by_cases h1:n%18446744073709551616≥9223372036854775808
 · rw[if_pos (by simpa using h1)];omega
 · rw[if_neg (by simpa using h1)];omega
end Go.Proofs.YtdlijlecpopadaaGreatDoor.Sq
end
section
namespace Go.Proofs.YtdlijlecpopadaaGreatDoor.Sq
open Go.Aw Go.Aw.D Go.Proofs Ty
open Mv (fF eI NC.pc bK)
def mF(t:Int)(s:Int)(p:Point):Int:=if decide (p.t≤t)=true then W (s+p.a)else s
def nZ(a:Arc)(t:Int):Int:=a.slow.foldl (mF t) (iH a.travel t)
structure ArcB(a:Arc):Prop where
 travel:a.travel.length≤1048576
 slow:a.slow.length≤1048576
 time:∀p∈a.travel,i64B p.t
structure NetB(n:Network):Prop where
 arcs:n.arcs.length≤1048576
 arc:∀a∈n.arcs,ArcB a
def dX(n:Network)(p f t time:Int):Int×Int×Int:=
 if(!FA n f|| !FA n t)=true then(0,0,11)else if(f == t)=true then(time,0,0)
 else match lI n p f t with|some a=>(nZ a time,a.miles,0)|none=>(0,0,12)
structure Score where
 cost:Int
 moved:Int
 other:Int
 work:Int
def GD(c s:Int)(i:Nat):Bool:=(IntKind.i64.wrap (Int.tdiv s (2^i:Nat))).tmod 2 == 1&&(IntKind.i64.wrap (Int.tdiv c (2^i:Nat))).tmod 2 == 0
def pP(c s:Int):Bool:= !(decide (c<0)||decide (s<0))&&(List.range 63).all fun i=> !GD c s i
def jM:Stop:=⟨0,0,0,0⟩
def nP(o:Order)(v:Visit):Stop:=if v.drop=true then o.drop else o.pick
def wY(x:Instance)(v:Visit):Stop×Bool:=if oH v.order x.orders.length=true then(jM,false)else
 match x.orders[v.order.toNat]? with
 | some o=>(nP o v,decide ((nP o v).place≥0))
 | none=>(jM,false)
structure St8 where
 place:Int
 time:Int
 driven:Int
 miles:Int
structure Tm where
 arrive:Int
 begin_:Int
 depart:Int
 rest:Bool
structure Sheet where
 rest:Bool
 depart:Int
 times:List Tm
 end_:Int
 miles:Int
theorem V7{H:aF}{i j:Nat}{r:Row}{b:Option Row}(hi:H i=some r)(h1:i≠j):aJ H j b i=some r:=by rw[aD _ _ _ _ h1,hi]
abbrev sV(s:Stop):Row:=⟨141,4,[iA s]⟩
abbrev Cn(l:List Int):Row:=⟨3,1,l.map aM⟩
abbrev zeroCells:List AV:=[boo false,int 0,.sl [],int 0,int 0]
structure InsB(x:Instance):Prop where
 net:NetB x.net
 types:x.types.length≤1048576
 orders:x.orders.length≤1048576
 apart:x.apart.length≤1048576
 before:x.before.length≤1048576
structure PlanB(p:Plan):Prop where
 routes:p.routes.length≤1048576
 visits:∀r∈p.routes,r.visits.length≤1048576
 unserved:p.unserved.length≤1048576
theorem xF{P:Program}{C:kP}{PC:FuncId→List AV→aF→AV→Prop}{mt:Nat→Bool}{ops:Array Oper}{K:Env→aF→Prop}{m:Nat}{ρ:Env}{H:aF}(J:Env→aF→Prop)(h1:∀ρ H,J ρ H→K ρ H)
 (h2:∀K':Env→aF→Prop,(∀ρ H,J ρ H→K' ρ H)→rE P C PC mt ops K' m ρ H):rE P C PC mt ops K m ρ H:=h2 K h1
theorem pJ{α:Type}{p:α→Bool}:∀(l:List α) (n:Int),0≤n→decide (pW p l n≥0)=l.any p
 | [],n,_=>rfl
 | a::r,n,hn=>by
   have ih:=pJ (p:=p) r (n+1) (by omega);rw[Bool.eq_iff_iff]at ih ⊢;simp only[decide_eq_true_eq]at ih ⊢;rw[List.any_cons,Bool.or_eq_true,←ih];by_cases h:p a=true
   · rw[show pW p (a::r) n=n from if_pos h];exact⟨fun _=>.inl h,fun _=>hn⟩
   · rw[show pW p (a::r) n=pW p r (n+1)from if_neg h];exact⟨fun x=>.inr x,fun x=>x.resolve_left h⟩
theorem F3(l:List Int):(Vb l).length=1:=(rfl)
attribute [go_sem] F3
theorem Nt(l:List Order)(k:Int):PC Tryz.prog 122 [.sl (l.map aX),int k] (boo (!oH k l.length)):=by
 refine PC.body (c:=Tryz.f122.body.getD .skip) (fun _=>false) mixed Tryz.func122 rfl (by kernel_rfl) ?_;unfold Tryz.f122;simp only[Option.getD_some];simp only[go_sem];refine eI ?_;unfold oH;rw[Bool.eq_iff_iff];simp
theorem UF{α:Type}{p:α→Bool}{l:List α}{k:Nat}{x:α}(hk:l[k]?=some x)(hx:p x=false):l.all p=false:=by
 rw[List.all_eq_false];exact⟨x,List.mem_of_getElem? hk,by simp[hx]⟩
theorem and1(x:Int):pV .and .i64 x 1=x%2:=by
 have h:((BitVec.ofInt 64 x &&& BitVec.ofInt 64 1).toNat:Int)=x%2:=by
   rw[BitVec.toNat_and,BitVec.toNat_ofInt,BitVec.toNat_ofInt];have:((1:Int)%((2^64:Nat):Int)).toNat=1:=by decide
   rw[this,Nat.and_one_is_mod];omega
 refine Eq.trans (congrArg IntKind.i64.wrap h) ?_;exact aT (by omega)
theorem RG{a b:Nat}(ha:a<2^63)(hb:b<2^63):pV .or .i64 (a:Int) (b:Int)=((a ||| b:Nat):Int):=by
 have h:((BitVec.ofInt 64 (a:Int) ||| BitVec.ofInt 64 (b:Int)).toNat:Int)=((a ||| b:Nat):Int):=by
   rw[BitVec.toNat_or,BitVec.toNat_ofInt,BitVec.toNat_ofInt];have h1:((a:Int)%((2^64:Nat):Int)).toNat=a:=by omega
   have h2:((b:Int)%((2^64:Nat):Int)).toNat=b:=by omega
   rw[h1,h2]
 refine Eq.trans (congrArg IntKind.i64.wrap h) ?_;have:=Nat.or_lt_two_pow ha hb;exact aT (by omega)
theorem LL{x:Int}{i:Nat}(h:i≤62):shV .shr .i64 x (i:Int)=x/2^i:=by
 show x.fdiv (2^min ((i:Int)).toNat 64)=_;have:min ((i:Int)).toNat 64=i:=by omega
 rw[this,Int.fdiv_eq_ediv_of_nonneg _ (by exact Int.le_of_lt (Int.pow_pos (by decide)))]
theorem LD{i:Nat}(h:i≤62):shV .shl .i64 1 (i:Int)=((2^i:Nat):Int):=by
 show IntKind.i64.wrap (1*2^min ((i:Int)).toNat 64)=_;have:min ((i:Int)).toNat 64=i:=by omega
 rw[this,Int.one_mul];have h2:(2:Nat)^i≤2^62:=Nat.pow_le_pow_right (by decide) h;have h3:((2:Int)^i)=((2^i:Nat):Int):=by norm_cast
 rw[h3];generalize 2^i=m at h2;exact aT (by omega)
def iV(set i:Int):Bool:=decide (i≥0)&&decide (i≤62)&&((set/2^i.toNat)%2 == 1)
theorem CK(set i:Int):PC Tryz.prog 80 [int set,int i] (boo (iV set i)):=by
 refine PC.body (c:=Tryz.f80.body.getD .skip) (fun _=>false) mixed Tryz.func80 rfl (by kernel_rfl) ?_;unfold Tryz.f80;simp only[Option.getD_some];simp only[go_sem];refine⟨fun h=>?_,?_⟩
 · simp at h;omega
 · refine eI ?_
   unfold iV;rw[and1];by_cases h:0≤i∧i≤62
   · obtain⟨h0,h1⟩:=h
     have e:=LL (x:=set) (i:=i.toNat) (by omega);rw[Int.toNat_of_nonneg h0]at e;rw[e]
   · have:(decide (i≥0)&&decide (i≤62))=false:=by simp;omega
     rw[this];rfl
theorem Pg{n:Int}(h:0≤n∧n<18446744073709551616):IntKind.u64.wrap n=n:=Mv.QZ h
theorem Kd{s:Nat}{i:Int}(h0:0≤i)(h1:i≤62):iV (s:Int) i=s.testBit i.toNat:=by
 rw[Nat.testBit_eq_decide_div_mod_eq];unfold iV;have h3:((2:Int)^i.toNat)=((2^i.toNat:Nat):Int):=by norm_cast
 have:((s:Int)/2^i.toNat)=((s/2^i.toNat:Nat):Int):=by rw[h3];rfl
 rw[this];generalize s/2^i.toNat=m;rw[Bool.eq_iff_iff];simp only[beq_iff_eq,decide_eq_true_eq,Bool.and_eq_true];omega
end Go.Proofs.YtdlijlecpopadaaGreatDoor.Sq
end
