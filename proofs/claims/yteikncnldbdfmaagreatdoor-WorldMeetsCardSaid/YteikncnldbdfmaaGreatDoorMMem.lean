import Derived.Test.YteikncnldbdfmaaGreatDoorMPl
import Derived.WalkKit
import Derived.WalkSpells
import Derived.WalkLawsBesides
import Derived.Lib.Hide
import Derived.Laws.AppendOwnNone
import Derived.Deep.QuietTactic
import Derived.BigQuiet
import Derived.Deep.LoopGhost
import Derived.Deep.DeepMust
import Derived.Test.YteikncnldbdfmaaGreatDoorMShelf
import Derived.Test.YteikncnldbdfmaaGreatDoorRows
import Derived.Lib.SlicesS
import Derived.Below
import Derived.Laws.Rows
import Derived.Maps.AppendAt
import Derived.Test.YteikncnldbdfmaaGreatDoorProg
namespace Go.Mh
open Go.RowKit
abbrev str (l:Bs):Value:=.string ⟨l.toArray⟩
def At (w:World) (b o:Nat) (cs:List Value):Prop:=∀ j v,cs[j]?=some v→w.cell? ⟨b,o+j,none⟩=some v
theorem At.to {w w':World} {b o:Nat} {cs:List Value} (h:At w b o cs) (hb:w'.heap[b]?=w.heap[b]?):At w' b o cs:=
 fun j v hj=>by rw [World.cell?_of_block (w:=w) (by exact hb)];exact h j v hj
theorem lt_of_cell {w:World} {a:Addr} {v:Value} (h:w.cell? a=some v):a.block < w.heap.size:=by
 unfold World.cell? at h
 cases hb:w.heap[a.block]? with
 | none=>simp [hb] at h
 | some o=>exact (Array.getElem?_eq_some_iff.1 hb).1
theorem At.lt {w:World} {b o:Nat} {cs:List Value} (h:At w b o cs) (hn:cs≠[]):b < w.heap.size:=by
 cases cs with
 | nil=>exact absurd rfl hn
 | cons v cs=>exact lt_of_cell (h 0 v rfl)
theorem At.one {w:World} {b o:Nat} {x:Value} (h:At w b o [x]):w.cell? ⟨b,o,none⟩=some x:=h 0 x rfl
theorem At.three {w:World} {b o:Nat} {x y z:Value} (h:At w b o [x,y,z]) :
  w.cell? ⟨b,o,none⟩=some x∧w.cell? ⟨b,o+1,none⟩=some y∧w.cell? ⟨b,o+2,none⟩=some z:=⟨h 0 x rfl,h 1 y rfl,h 2 z rfl⟩
theorem At.four {w:World} {b o:Nat} {x y z u:Value} (h:At w b o [x,y,z,u]) :
  w.cell? ⟨b,o,none⟩=some x∧w.cell? ⟨b,o+1,none⟩=some y∧w.cell? ⟨b,o+2,none⟩=some z∧w.cell? ⟨b,o+3,none⟩=some u:=⟨h 0 x rfl,h 1 y rfl,h 2 z rfl,h 3 u rfl⟩
theorem At.seven {w:World} {b o:Nat} {x0 x1 x2 x3 x4 x5 x6:Value} (h:At w b o [x0,x1,x2,x3,x4,x5,x6]) :
  w.cell? ⟨b,o,none⟩=some x0∧w.cell? ⟨b,o+1,none⟩=some x1∧w.cell? ⟨b,o+2,none⟩=some x2∧w.cell? ⟨b,o+3,none⟩=some x3 ∧
  w.cell? ⟨b,o+4,none⟩=some x4∧w.cell? ⟨b,o+5,none⟩=some x5∧w.cell? ⟨b,o+6,none⟩=some x6:=
 ⟨h 0 _ rfl,h 1 _ rfl,h 2 _ rfl,h 3 _ rfl,h 4 _ rfl,h 5 _ rfl,h 6 _ rfl⟩
def RdS {α:Type} (sz:Nat) (R:World→List Value→α→Prop) (F:Nat→Prop) (w:World) (v:Value) (L:List α):Prop:=
 ∃ (a:Option Addr) (cap:Nat),v=.slice a L.length cap∧L.length≤cap∧cap≤maxLen∧(a=none→cap=0) ∧
  ∀ i x,L[i]?=some x→∃ b o cs,a=some ⟨b,o,none⟩∧F b∧cs.length=sz∧At w b (o+i * sz) cs∧R w cs x
section
variable {α:Type} {sz:Nat} {R R':World→List Value→α→Prop} {F F':Nat→Prop} {w w':World} {v:Value} {L:List α}
theorem RdS.to (h:RdS sz R F w v L) (hs:0 < sz) (hk:∀ k,F k→k < w.heap.size→F' k∧w'.heap[k]?=w.heap[k]?) (hR:∀ cs x,x ∈ L→R w cs x→R' w' cs x):RdS sz R' F' w' v L:=by
 obtain ⟨a,cap,rfl,h1,h2,h3,h4⟩:=h
 refine ⟨a,cap,rfl,h1,h2,h3,fun i x hx=>?_⟩
 obtain ⟨b,o,cs,rfl,hF,hc,hat,hr⟩:=h4 i x hx
 have hne:cs≠[]:=by intro e;subst e;simp at hc;omega
 obtain ⟨k1,k2⟩:=hk b hF (hat.lt hne)
 exact ⟨b,o,cs,rfl,k1,hc,hat.to k2,hR cs x (List.mem_of_getElem? hx) hr⟩
theorem RdS.nil:RdS sz R F w (.slice none 0 0) ([]:List α):=⟨none,0,rfl,by simp,by simp [maxLen],fun _=>rfl,fun i x h=>by simp at h⟩
end
def RB (_:World) (cs:List Value) (x:UInt8):Prop:=cs=[.int .u8 x.toNat]
def RI (_:World) (cs:List Value) (x:Int):Prop:=cs=[.int .i64 x]
def RIt (_:World) (cs:List Value) (x:It):Prop:=cs=[.int .u8 x.c.toNat,.int .i64 x.m,str x.l]
def RTok (_:World) (cs:List Value) (x:Tok):Prop:=cs=[.int .i64 x.k,str x.name,str x.text,str x.href]
abbrev RBytes:=RdS 1 RB
abbrev RInts:=RdS 1 RI
abbrev RItems:=RdS 3 RIt
abbrev RToks:=RdS 4 RTok
def RPt (F:Nat→Prop) (w:World) (cs:List Value) (p:Pt):Prop:=
 ∃ sv,cs=[.int .i64 p.k,.int .i64 p.n,sv,.int .i64 p.set,.int .i64 p.clr,.bool p.to,str p.l]∧RItems F w sv p.its
abbrev ROp (F:Nat→Prop):=RdS 7 (RPt F) F
def REn (F:Nat→Prop) (w:World) (cs:List Value) (x:En):Prop:=∃ ov,cs=[.int .i64 x.client,.int .i64 x.seq,ov]∧ROp F w ov x.o
abbrev RLog (F:Nat→Prop):=RdS 3 (REn F) F
abbrev Kp (F F':Nat→Prop) (w w':World):Prop:=∀ k,F k→k < w.heap.size→F' k∧w'.heap[k]?=w.heap[k]?
theorem Kp.below {F:Nat→Prop} {w w':World} (h:Below w.heap.size w w'):Kp F F w w':=fun k hF hk=>⟨hF,h.block k hk⟩
theorem Kp.lt {F:Nat→Prop} (w:World):Kp F (fun k=>F k∧k < w.heap.size) w w:=fun _ hF hk=>⟨⟨hF,hk⟩,rfl⟩
theorem Kp.weak {F F':Nat→Prop} (w:World) (h:∀ k,F k→F' k):Kp F F' w w:=fun k hF _=>⟨h k hF,rfl⟩
theorem Kp.trans {F F' F'':Nat→Prop} {w w' w'':World} (h:Kp F F' w w') (hs:w.heap.size≤w'.heap.size) (k:Kp F' F'' w' w''):Kp F F'' w w'':=fun i hF hi =>
 let ⟨a,b⟩:=h i hF hi;let ⟨c,d⟩:=k i a (by omega);⟨c,d.trans b⟩
section
variable {F F':Nat→Prop} {w w':World} {v:Value}
theorem RBytes.to {L:List UInt8} (h:RBytes F w v L) (hk:Kp F F' w w'):RBytes F' w' v L:=RdS.to h (by decide) hk fun _ _ _ r=>r
theorem RItems.to {L:List It} (h:RItems F w v L) (hk:Kp F F' w w'):RItems F' w' v L:=RdS.to h (by decide) hk fun _ _ _ r=>r
theorem RPt.to {cs:List Value} {p:Pt} (h:RPt F w cs p) (hk:Kp F F' w w'):RPt F' w' cs p:=let ⟨sv,e,r⟩:=h;⟨sv,e,RItems.to r hk⟩
theorem ROp.to {L:List Pt} (h:ROp F w v L) (hk:Kp F F' w w'):ROp F' w' v L:=RdS.to h (by decide) hk fun _ _ _ r=>RPt.to r hk
theorem REn.to {cs:List Value} {p:En} (h:REn F w cs p) (hk:Kp F F' w w'):REn F' w' cs p:=let ⟨sv,e,r⟩:=h;⟨sv,e,ROp.to r hk⟩
theorem RLog.to {L:List En} (h:RLog F w v L) (hk:Kp F F' w w'):RLog F' w' v L:=RdS.to h (by decide) hk fun _ _ _ r=>REn.to r hk
end
structure El (P:Program) (t e:TypeId) (sz bytes:Nat) (z:Value):Prop where
 under:P.underlying t=some (.slice e)
 info:(P.info? e).map (fun i=>(i.zero,i.size,i.bytes))=some (some z,sz,bytes)
 cells:z.cells.size=sz
 pos:0 < sz
def OwnS {α:Type} (base e sz:Nat) (R:World→List Value→α→Prop) (w:World) (v:Value) (L:List α):Prop:=
 ∃ css:List (List Value),w.ownsRow base e sz v L.length css.flatten∧css.length=L.length ∧
  ∀ (i:Nat) (cs:List Value) (x:α),css[i]?=some cs→L[i]?=some x→cs.length=sz∧R w cs x∧∀ u ∈ cs,u.oneCell'=true
theorem len_flatten {css:List (List Value)} {sz:Nat} (h:∀ (i:Nat) (cs:List Value),css[i]?=some cs→cs.length=sz):css.flatten.length=css.length * sz:=by
 induction css with
 | nil=>simp
 | cons a css ih =>
  have h0:=h 0 a rfl
  have:=ih fun i cs hi=>h (i+1) cs (by simpa using hi)
  simp only [List.flatten_cons,List.length_append,List.length_cons,h0,this,Nat.succ_mul]
  omega
theorem get_flatten {css:List (List Value)} {sz:Nat} (h:∀ (i:Nat) (cs:List Value),css[i]?=some cs→cs.length=sz) {i j:Nat} {cs:List Value} {u:Value} (hi:css[i]?=some cs) (hj:cs[j]?=some u):css.flatten[i * sz+j]?=some u:=by
 induction css generalizing i with
 | nil=>simp at hi
 | cons a css ih =>
  have h0:=h 0 a rfl
  cases i with
  | zero =>
   simp at hi
   subst hi
   have hj':=(List.getElem?_eq_some_iff.1 hj).1
   simp only [List.flatten_cons,Nat.zero_mul,Nat.zero_add]
   rw [List.getElem?_append_left hj']
   exact hj
  | succ i =>
   simp only [List.getElem?_cons_succ] at hi
   have:=ih (fun i cs hi=>h (i+1) cs (by simpa using hi)) hi
   simp only [List.flatten_cons]
   rw [List.getElem?_append_right (by rw [h0,Nat.succ_mul];omega),← this,h0,Nat.succ_mul]
   congr 1
   omega
section
variable {α:Type} {base e sz:Nat} {R R':World→List Value→α→Prop} {w w':World} {v:Value} {L:List α}
theorem OwnS.nil:OwnS base e sz R w (.slice none 0 0) ([]:List α):=⟨[],World.ownsRow_nil w base e sz,rfl,fun i cs x h=>by simp at h⟩
theorem ownsRow_below {v:Value} {n:Nat} {xs:List Value} (h:w.ownsRow base e sz v n xs) (hb:∀ k,v.ownBlock=some k→w'.heap[k]?=w.heap[k]?):w'.ownsRow base e sz v n xs:=by
 obtain ⟨h1,h2⟩:=h
 refine ⟨h1, ?_⟩
 rcases h2 with h2 | ⟨g,cap,cur,rfl,hg,hh,r⟩
 ·exact Or.inl h2
 ·exact Or.inr ⟨g,cap,cur,rfl,hg,by rw [hb g rfl];exact hh,r⟩
theorem OwnS.to (h:OwnS base e sz R w v L) (hb:∀ k,v.ownBlock=some k→k < w.heap.size→w'.heap[k]?=w.heap[k]?) (hR:∀ cs x,x ∈ L→R w cs x→R' w' cs x):OwnS base e sz R' w' v L:=by
 obtain ⟨css,h1,h2,h3⟩:=h
 refine ⟨css,ownsRow_below h1 (fun k hk=>hb k hk (h1.lt k hk).2),h2,fun i cs x hi hx=>?_⟩
 obtain ⟨a,b,c⟩:=h3 i cs x hi hx
 exact ⟨a,hR cs x (List.mem_of_getElem? hx) b,c⟩
theorem OwnS.rd (h:OwnS base e sz R w v L):RdS sz R (base≤·) w v L:=by
 obtain ⟨css,⟨h0,h1⟩,h2,h3⟩:=h
 have hsz:∀ (i:Nat) (cs:List Value),css[i]?=some cs→cs.length=sz:=fun i cs hi=>by
  have hl:i < L.length:=by rw [← h2];exact (List.getElem?_eq_some_iff.1 hi).1
  exact (h3 i cs L[i] hi (List.getElem?_eq_getElem hl)).1
 rcases h1 with ⟨rfl,hn⟩ | ⟨g,cap,cur,rfl,hg,hh,hle,hm,hcur,htake⟩
 ·obtain rfl:=List.eq_nil_of_length_eq_zero hn
  exact RdS.nil
 ·refine ⟨_,cap,rfl,hle,hm,fun h=>by simp at h,fun i x hx=>?_⟩
  have hl:i < L.length:=(List.getElem?_eq_some_iff.1 hx).1
  obtain ⟨cs,hcs⟩:∃ cs,css[i]?=some cs:=⟨_,List.getElem?_eq_getElem (by omega)⟩
  obtain ⟨a,b,c⟩:=h3 i cs x hcs hx
  refine ⟨g,0,cs,rfl,hg,a,fun j u hj=>?_,b⟩
  have hf:=get_flatten hsz hcs hj
  rw [← htake,List.getElem?_take] at hf
  split at hf
  ·unfold World.cell?
   rw [hh]
   simpa using hf
  ·simp at hf
end
theorem RdS.one {α:Type} {sz:Nat} {R:World→List Value→α→Prop} {F:Nat→Prop} {w:World} {x:α} (cs:List Value) (e:TypeId) (hcs:cs.length=sz) (hF:F w.heap.size) (hR:R (w.alloc (.cells cs.toArray e)) cs x) :
  RdS sz R F (w.alloc (.cells cs.toArray e)) (.slice (some ⟨w.heap.size,0,none⟩) 1 1) [x]:=by
 refine ⟨_,1,rfl,by simp,by simp [maxLen],fun h=>by simp at h,fun i y hy=>?_⟩
 cases i with
 | succ i=>simp at hy
 | zero =>
  simp at hy
  subst hy
  refine ⟨_,0,cs,rfl,hF,hcs,fun j u hj=>?_,hR⟩
  simp
  simpa using hj
theorem wpList_app {P:Program} {w:World} {ops:Array Oper} {rest:List Oper} {o:Oper} {a:Act} {Q:Exit→Act→World→Prop} (hgd:o.guard=none) (s x:Operand) (t:TypeId)
  (ho:o.op=.call { callee:=.builtin .append,args:=#[s,x],argTypes:=#[t,t] })
  {α:Type} (base e sz bytes:Nat) (z:Value) (hel:El P t e sz bytes z) (R:World→List Value→α→Prop) (v:Value) (L M:List α) (hs:a.eval s=v) (hown:OwnS base e sz R w v L)
  (F:Nat→Prop) (xv:Value) (hx:a.eval x=xv) (hsrc:RdS sz R F w xv M) (h1c:∀ w cs x,R w cs x→∀ u ∈ cs,u.oneCell'=true)
  (h63:L.length+M.length≤maxLen) (hbytes:(L.length+M.length) * bytes≤140737488355328) (hbase:base≤w.heap.size)
  (hRk:∀ w',w.grownBy w' v.ownBlock→∀ cs x,x ∈ L ++ M→R w cs x→R w' cs x)
  (h:∀ v' w',OwnS base e sz R w' v' (L ++ M)→w.grownBy w' v.ownBlock→Below base w w'→wpList P ops Q rest (a.put o.dst v') w'):wpList P ops Q (o :: rest) a w:=by
 obtain ⟨css,hrow,h2,h3⟩:=hown
 obtain ⟨i,hi,hz,hsize,hby⟩:=info_parts hel.info
 obtain ⟨ao,cap,rfl,hl1,hl2,hl3,hsr⟩:=hsrc
 have hlt:=hrow.lt
 -- the source's cells
 obtain ⟨ccs,hcl,hcc⟩:∃ ccs:List (List Value),ccs.length=M.length∧∀ (i:Nat) (cs:List Value) (x:α),ccs[i]?=some cs→M[i]?=some x→∃ b o,ao=some ⟨b,o,none⟩∧cs.length=sz∧At w b (o+i * sz) cs∧R w cs x:=by
  clear hl1 hx h63 hbytes hRk h
  have:∀ n,n≤M.length→∃ ccs:List (List Value),ccs.length=n∧∀ (i:Nat) (cs:List Value) (x:α),ccs[i]?=some cs→M[i]?=some x→∃ b o,ao=some ⟨b,o,none⟩∧cs.length=sz∧At w b (o+i * sz) cs∧R w cs x:=by
   intro n
   induction n with
   | zero=>intro _;exact ⟨[],rfl,fun i cs x hi=>by simp at hi⟩
   | succ n ih =>
    intro hn
    obtain ⟨ccs,hl,hc⟩:=ih (by omega)
    obtain ⟨b,o',cs,h1,_,h4,h5,h6⟩:=hsr n M[n] (List.getElem?_eq_getElem (by omega))
    refine ⟨ccs ++ [cs],by simp [hl],fun i cs' x hi hx=>?_⟩
    rcases Nat.lt_or_ge i ccs.length with hlt | hge
    ·rw [List.getElem?_append_left hlt] at hi
     exact hc i cs' x hi hx
    ·rw [List.getElem?_append_right hge] at hi
     obtain rfl:i=n:=by
      have:=(List.getElem?_eq_some_iff.1 hi).1
      simp at this
      omega
     simp [hl] at hi
     subst hi
     rw [List.getElem?_eq_getElem (by omega)] at hx
     obtain rfl:=Option.some.inj hx
     exact ⟨b,o',h1,h4,h5,h6⟩
  exact this M.length (Nat.le_refl _)
 have hcsz:∀ (i:Nat) (cs:List Value),ccs[i]?=some cs→cs.length=sz:=fun i cs hi=>by
  have hl:i < M.length:=by rw [← hcl];exact (List.getElem?_eq_some_iff.1 hi).1
  obtain ⟨_,_,_,h,_⟩:=hcc i cs M[i] hi (List.getElem?_eq_getElem hl)
  exact h
 have hfin:∀ w',w.grownBy w' v.ownBlock→∀ (i:Nat) (cs:List Value) (x:α),(css ++ ccs)[i]?=some cs→(L ++ M)[i]?=some x→cs.length=sz∧R w' cs x∧∀ u ∈ cs,u.oneCell'=true:=by
  intro w' hg i cs x hi hx
  have hm:=List.mem_of_getElem? hx
  rcases Nat.lt_or_ge i css.length with hlt | hge
  ·rw [List.getElem?_append_left hlt] at hi
   rw [List.getElem?_append_left (by omega)] at hx
   obtain ⟨a1,a2,a3⟩:=h3 i cs x hi hx
   exact ⟨a1,hRk w' hg cs x hm a2,a3⟩
  ·rw [List.getElem?_append_right hge] at hi
   rw [List.getElem?_append_right (by omega),← h2] at hx
   obtain ⟨b,o',_,h4,h5,h6⟩:=hcc _ cs x hi hx
   exact ⟨h4,hRk w' hg cs x hm h6,h1c _ _ _ h6⟩
 have hbel:∀ w',w.grownBy w' v.ownBlock→Below base w w':=fun w' hg=>(Below.refl base w).grown hg hbase fun k hk=>(hlt k hk).1
 cases ao with
 | none =>
  have hM:M=[]:=by
   cases M with
   | nil=>rfl
   | cons y M=>obtain ⟨_,_,_,h,_⟩:=hsr 0 y rfl;simp at h
  subst hM
  have hc0:=hl3 rfl
  subst hc0
  refine wpList_append_own_none hgd s x t ho base e i sz hel.under hi v L.length css.flatten hs hrow hx ?_
  have hcc0:ccs=[]:=List.eq_nil_of_length_eq_zero hcl
  subst hcc0
  have hg:w.grownBy w v.ownBlock:=World.grownBy.refl w _
  refine h v w ⟨css,by simpa using hrow,by simpa using h2,by simpa using hfin w hg⟩ hg (hbel w hg)
 | some ad =>
  refine wpList_append_own w hgd s x t ho base e i z sz bytes hel.under hi hz hsize hby hel.cells hel.pos v L.length css.flatten hs hrow ad M.length cap ccs.flatten hx (by rw [len_flatten hcsz,hcl]) ?_ ?_ h63 hbytes hbase ?_
  ·intro j u hj
   have hlen:=len_flatten hcsz
   have hj':=(List.getElem?_eq_some_iff.1 hj).1
   have hpos:=hel.pos
   have hdm:=Nat.div_add_mod j sz
   have hmod:=Nat.mod_lt j hpos
   have hdl:j / sz < ccs.length:=by
    rw [Nat.div_lt_iff_lt_mul hpos];omega
   obtain ⟨cs,hcs⟩:∃ cs,ccs[j / sz]?=some cs:=⟨_,List.getElem?_eq_getElem hdl⟩
   obtain ⟨b,o',hao,h4,h5,h6⟩:=hcc _ cs M[j / sz] hcs (List.getElem?_eq_getElem (by omega))
   obtain rfl:=Option.some.inj hao
   obtain ⟨u',hu'⟩:∃ u',cs[j % sz]?=some u':=⟨_,List.getElem?_eq_getElem (by omega)⟩
   have hf:=get_flatten hcsz hcs hu'
   rw [show j / sz * sz+j % sz=j by rw [Nat.mul_comm];exact hdm] at hf
   rw [hf] at hj
   obtain rfl:=Option.some.inj hj
   rw [Addr.add_lit,show o'+j=o'+j / sz * sz+j % sz by rw [Nat.mul_comm (j / sz)];omega]
   exact h5 _ _ hu'
  ·intro u hu
   obtain ⟨cs,hcs,hu⟩:=List.mem_flatten.1 hu
   obtain ⟨i',hi'⟩:=List.getElem?_of_mem hcs
   have hl:i' < M.length:=by rw [← hcl];exact (List.getElem?_eq_some_iff.1 hi').1
   obtain ⟨_,_,_,_,_,h6⟩:=hcc i' cs M[i'] hi' (List.getElem?_eq_getElem hl)
   exact h1c _ _ _ h6 u hu
  ·intro v' w' hown' hg _
   exact h v' w' ⟨css ++ ccs,by simpa using hown',by simp [h2,hcl],hfin w' hg⟩ hg (hbel w' hg)
theorem RIt_one:∀ (w:World) (cs:List Value) (x:It),RIt w cs x→∀ u ∈ cs,u.oneCell'=true:=by rintro _ _ _ rfl u hu;simp at hu;rcases hu with rfl | rfl | rfl <;> rfl
theorem RTok_one:∀ (w:World) (cs:List Value) (x:Tok),RTok w cs x→∀ u ∈ cs,u.oneCell'=true:=by rintro _ _ _ rfl u hu;simp at hu;rcases hu with rfl | rfl | rfl | rfl <;> rfl
theorem RItems_one {F:Nat→Prop} {w:World} {v:Value} {L:List It} (h:RItems F w v L):v.oneCell'=true:=by obtain ⟨a,cap,rfl,_⟩:=h;rfl
theorem RPt_one (F:Nat→Prop):∀ (w:World) (cs:List Value) (x:Pt),RPt F w cs x→∀ u ∈ cs,u.oneCell'=true:=by
 rintro _ _ _ ⟨sv,rfl,hs⟩ u hu
 have:=RItems_one hs
 simp at hu
 rcases hu with rfl | rfl | rfl | rfl | rfl | rfl | rfl <;> first | rfl | assumption
theorem OwnS.below {α:Type} {base e sz:Nat} {R:World→List Value→α→Prop} {w w':World} {v:Value} {L:List α} (h:OwnS base e sz R w v L) (hb:Below w.heap.size w w') (hR:∀ cs x,x ∈ L→R w cs x→R w' cs x):OwnS base e sz R w' v L:=
 h.to (fun k _ hk=>hb.block k hk) hR
theorem wpList_app1 {P:Program} {w:World} {ops:Array Oper} {rest:List Oper} {o:Oper} {a:Act} {Q:Exit→Act→World→Prop} (hgd:o.guard=none) (s x:Operand) (t:TypeId)
  (ho:o.op=.call { callee:=.builtin .append,args:=#[s,x],argTypes:=#[t,t] })
  {α:Type} (base e sz bytes:Nat) (z:Value) (hel:El P t e sz bytes z) (R:World→List Value→α→Prop) (v:Value) (L:List α) (hs:a.eval s=v) (hown:OwnS base e sz R w v L)
  (y:α) (cs:List Value) (e':TypeId) (g:Nat) (hx:a.eval x=.slice (some ⟨g,0,none⟩) 1 1) (hg:g=w.heap.size) (hcs:cs.length=sz)
  (hR1:∀ w',Below w.heap.size w w'→R w' cs y) (h1c:∀ w cs x,R w cs x→∀ u ∈ cs,u.oneCell'=true)
  (h63:L.length+1≤maxLen) (hbytes:(L.length+1) * bytes≤140737488355328) (hbase:base≤w.heap.size)
  (hRk:∀ wa w',World.grownBy wa w' v.ownBlock→∀ cs x,R wa cs x→R w' cs x)
  (h:∀ v' w',OwnS base e sz R w' v' (L ++ [y])→Below base w w'→w.heap.size < w'.heap.size→(∀ k,k < w.heap.size→some k≠v.ownBlock→w'.heap[k]?=w.heap[k]?)→wpList P ops Q rest (a.put o.dst v') w') :
  wpList P ops Q (o :: rest) a (w.alloc (.cells cs.toArray e')):=by
 subst hg
 have hb0:Below w.heap.size w (w.alloc (.cells cs.toArray e')):=(Below.refl _ _).alloc (Nat.le_refl _) _
 have hcomb:∀ w',(w.alloc (.cells cs.toArray e')).grownBy w' v.ownBlock→∀ k,k < w.heap.size→some k≠v.ownBlock→w'.heap[k]?=w.heap[k]?:=fun w' hg k hk hne=>by
  rw [hg.block k (by simp;omega) hne];exact hb0.block k hk
 refine wpList_app hgd s x t ho base e sz bytes z hel R v L [y] hs (hown.below hb0 (fun cs' x' _ r=>hRk _ _ (World.grownBy_alloc w _ _) cs' x' r)) (fun _=>True) _ hx
  (RdS.one cs e' hcs trivial (hR1 _ hb0)) h1c (by simpa using h63) (by simpa using hbytes) (by simp;omega) ?_ ?_
 ·intro w' hg cs' x' _ r
  exact hRk _ _ hg cs' x' r
 ·intro v' w' hown' hg hb
  exact h v' w' hown' (((Below.refl _ _).alloc hbase _).trans hb) (by have:=hg.size;simp at this;omega) (hcomb w' hg)
theorem heap_new (w:World) (o:Obj):(w.alloc o).heap[w.heap.size]?=some o:=by
 show (w.heap.push o)[w.heap.size]?=_
 simp
theorem RItems.lit {F:Nat→Prop} {w:World} {g n cap:Nat} {L:List It} {xs:Array Value} {e:TypeId} {fr:Nat × Nat} (hg:w.heap[g]?=some (.cells xs e fr)) (hn:n=L.length) (hc:n≤cap) (hm:cap≤maxLen) (hF:F g)
  (hx:∀ i x,L[i]?=some x→xs[i * 3]?=some (.int .u8 x.c.toNat)∧xs[i * 3+1]?=some (.int .i64 x.m)∧xs[i * 3+2]?=some (str x.l)):RItems F w (.slice (some ⟨g,0,none⟩) n cap) L:=by
 subst hn
 refine ⟨_,cap,rfl,hc,hm,fun h=>by simp at h,fun i x hi=>⟨g,0,[.int .u8 x.c.toNat,.int .i64 x.m,str x.l],rfl,hF,rfl,fun j u hj=>?_,rfl⟩⟩
 obtain ⟨a0,a1,a2⟩:=hx i x hi
 unfold World.cell?
 rw [hg]
 match j,hj with
 | 0,hj=>simp at hj;subst hj;simpa using a0
 | 1,hj=>simp at hj;subst hj;simpa using a1
 | 2,hj=>simp at hj;subst hj;simpa using a2
theorem RdS.capLe {α:Type} {sz:Nat} {R:World→List Value→α→Prop} {F:Nat→Prop} {w:World} {a:Option Addr} {n cap:Nat} {L:List α} (h:RdS sz R F w (.slice a n cap) L):n≤cap:=by
 obtain ⟨a',cap',e,h1,h2,h3,h4⟩:=h
 cases e
 exact h1
theorem bal {a w:World} (h:Below a.heap.size a w) (o:Obj):Below a.heap.size a (w.alloc o):=h.alloc h.size o
theorem btr {a b c:World} (h:Below a.heap.size a b) (k:Below b.heap.size b c):Below a.heap.size a c:=h.trans (k.mono h.size)
theorem brf (a:World):Below a.heap.size a a:=Below.refl _ _
theorem str_take (l:Bs) (n:Nat):Value.string ((⟨l.toArray⟩:ByteArray).extract 0 n)=str (l.take n):=by
 rw [ByteArray.extract_mk];simp
theorem str_drop (l:Bs) (n m:Nat) (h:m=l.length):Value.string ((⟨l.toArray⟩:ByteArray).extract n m)=str (l.drop n):=by
 rw [ByteArray.extract_mk];subst h;rw [List.take_of_length_le (by simp)]
theorem ret3 {a b c a' b' c':Value} (h0:a=a') (h1:b=b') (h2:c=c'):Ending.returned (.tuple #[a,b,c])=.returned (.tuple #[a',b',c']):=by rw [h0,h1,h2]
theorem bdrewN {B:Nat} {a w:World} (h:Below B a w) (n:Nat):Below B a (w.drewN n):=Go.below_drewN h n
end Go.Mh
namespace Go.Mh
theorem name_world {P:World→Prop} {w:World} (h:∀ w',w=w'→P w'):P w:=h w rfl
end Go.Mh
namespace Go.Proofs.YteikncnldbdfmaaGreatDoor
open Go.RowKit Go.Mh
set_option maxHeartbeats 400000 in
theorem slCut1_no (l:Bs) (c:UInt8) (w:World) (h:c ∉ l) :
  Calls Tryz.prog 174 #[str l,.string ⟨#[c]⟩] w fun e w'=>e=.returned (.tuple #[str l,str [],.bool false])∧Below w.heap.size w w':=by
 have hi:=Lib.hid (indexByte_none h)
 go_enter Tryz.func174,Tryz.ntmps174
 go_wp2_with (go_at_call 186;refine (Tryz.stringslite_Index_one _ _ _).mono ?_;rintro e w' ⟨rfl,rfl⟩;dsimp only;rw [hi.out])
 go_ret3
 exact ⟨rfl,Below.refl _ _⟩
set_option maxHeartbeats 400000 in
theorem slCut1_yes (l:Bs) (c:UInt8) (w:World) (h:c ∈ l) (hm:l.length≤maxLen) :
  Calls Tryz.prog 174 #[str l,.string ⟨#[c]⟩] w fun e w'=>e=.returned (.tuple #[str (l.takeWhile (· != c)),str (l.dropWhile (· != c)).tail,.bool true])∧Below w.heap.size w w':=by
 have hi:=Lib.hid (indexByte_some h)
 have hlt:=takeWhile_len_lt h
 obtain ⟨n,hn⟩:∃ n,n=(l.takeWhile (· != c)).length:=⟨_,rfl⟩
 rw [← hn] at hlt
 have hn':=Lib.hid hn;clear hn
 unfold maxLen at hm
 go_enter Tryz.func174,Tryz.ntmps174
 go_wp2_with (go_at_call 186;refine (Tryz.stringslite_Index_one _ _ _).mono ?_;rintro e w' ⟨rfl,rfl⟩;dsimp only;rw [hi.out,← hn'.out])
 go_quiet (fail)
 go_wp2
 go_ret3
 exact ⟨ret3 ((str_take l n).trans (by rw [hn'.out,take_takeWhile])) ((str_drop l (n+1) _ rfl).trans (by rw [hn'.out,← List.drop_drop,drop_takeWhile,List.drop_one])) rfl,bdrewN (Below.refl _ _) _⟩
theorem slCut1 (l:Bs) (c:UInt8) (w:World) (hm:l.length≤maxLen) :
  Calls Tryz.prog 174 #[str l,.string ⟨#[c]⟩] w fun e w'=>e=.returned (.tuple #[str (cut1 c l).1,str (cut1 c l).2.1,.bool (cut1 c l).2.2])∧Below w.heap.size w w':=by
 unfold cut1
 by_cases h:c ∈ l
 ·simp only [h,if_true]
  exact slCut1_yes l c w h hm
 ·simp only [h,if_false]
  exact slCut1_no l c w h
set_option maxHeartbeats 400000 in
theorem cut1_any (l:Bs) (c:UInt8) (w:World) (hm:l.length≤maxLen) :
  Calls Tryz.prog 121 #[str l,.string ⟨#[c]⟩] w fun e w'=>e=.returned (.tuple #[str (cut1 c l).1,str (cut1 c l).2.1,.bool (cut1 c l).2.2])∧Below w.heap.size w w':=by
 go_enter Tryz.func121,Tryz.ntmps121
 go_wp2_with (go_at_call 174;refine (slCut1 _ _ _ hm).mono ?_;rintro e w' ⟨rfl,hb⟩)
 go_ret3
 exact ⟨rfl,hb⟩
end Go.Proofs.YteikncnldbdfmaaGreatDoor
namespace Go.Proofs.YteikncnldbdfmaaGreatDoor
open Go.RowKit Go.Mh
theorem wpList_bytes_of_string {P:Program} (w:World) {ops:Array Oper} {rest:List Oper} {o:Oper} {a:Act} {Q:Exit→Act→World→Prop}
  (hg:o.guard=none) (src dst:TypeId) (x:Operand) (hop:o.op=Op.convert src dst x) (e:TypeId)
  (hs:P.underlying src=some .string) (hd:P.underlying dst=some (.slice e)) (he:P.underlying e=some (.int .u8)) (l:Bs) (hx:a.eval x=str l)
  (hK:∀ w' cap,(∀ j c,l[j]?=some c→w'.cell? ⟨w.heap.size,j,none⟩=some (.int .u8 (c.toNat:Int)))→(∀ j,j < l.length→w'.frozen? ⟨w.heap.size,j,none⟩=false) →
   w'.heap.size=w.heap.size+1→Below w.heap.size w w'→wpList P ops Q rest (a.put o.dst (.slice (some ⟨w.heap.size,0,none⟩) l.length cap)) w') :
  wpList P ops Q (o :: rest) a w:=by
 refine wpList_plain hg fun K hK'=>?_
 have hrun:=run_bytes_of_string (P:=P) w src dst e ⟨l.toArray⟩ hs hd he
 unfold Oper.wp
 simp only [execOp,hop,hx]
 simp [hrun,Result.andThen]
 refine hK' _ _ (hK _ _ ?_ ?_ ?_ ?_)
 ·intro j c hj
  have hj':=(List.getElem?_eq_some_iff.1 hj).1
  have:=bytesRow_at ⟨l.toArray⟩ (grownCap w l.length 0 e) j (by simpa using hj')
  simp at this
  rw [(List.getElem?_eq_some_iff.1 hj).2] at this
  rw [← this]
  exact World.cell?_alloc_mark w.drew _ _ _ j
 ·intro j h
  refine (World.frozen?_alloc_mark w.drew _ e _ _ j).trans ?_
  have hsz:∀ n,l.length≤(bytesRow ⟨l.toArray⟩ n).size:=fun n=>by simp [bytesRow]
  have:=hsz (grownCap w (⟨l.toArray⟩:ByteArray).size 0 e)
  simp only [Bool.and_eq_false_iff,decide_eq_false_iff_not]
  left;omega
 ·simp
 ·exact (Below.refl _ _).drew.alloc (Nat.le_refl _) _
theorem cell_set {w:World} {b i j:Nat} {v u:Value} (h:w.cell? ⟨b,j,none⟩=some u):(w.setCell ⟨b,i,none⟩ v).cell? ⟨b,j,none⟩=some (if i=j then v else u):=by
 by_cases hij:i=j
 ·subst hij
  rw [if_pos rfl,World.cell?_setCell_same (h:=h)]
 ·have hne:(⟨b,i,none⟩:Addr)≠⟨b,j,none⟩:=by intro e;exact hij (Addr.mk.inj e).2.1
  rw [if_neg hij]
  exact (World.cell?_setCell_other w _ _ v hne).trans h
set_option maxHeartbeats 400000 in
theorem lower_any (l:Bs) (w:World) (hs:l.length≤maxLen) :
  Calls Tryz.prog 232 #[str l] w fun e w'=>e=.returned (str (lower l))∧Below w.heap.size w w':=by
 unfold maxLen at hs
 go_enter Tryz.func232,Tryz.ntmps232
 go_wp2_with (refine wpList_bytes_of_string _ rfl 9 41 (.tmp 6) rfl 5 Tryz.underlying9 Tryz.underlying41 Tryz.underlying5 l rfl ?_;intro w1 cap hc hf hz hb)
 go_loopw [4,5,10] (fun _ _ i wr=>∃ k:Nat,k≤l.length∧i=.int .i64 k∧(∀ j c,l[j]?=some c→wr.cell? ⟨w.heap.size,j,none⟩=some (.int .u8 ((if j < k then lowB c else c).toNat:Int)))∧(∀ j,j < l.length→wr.frozen? ⟨w.heap.size,j,none⟩=false)∧Below w.heap.size w wr) (fun _ _ i _=>l.length - (intOf i).toNat)
 case atStart=>exact ⟨0,Nat.zero_le _,rfl,by simpa using hc,hf,hb⟩
 case round =>
  obtain ⟨k,hk,rfl,hc',hf',hb'⟩:=hrel
  clear hc hf hz hb
  by_cases hlt:k < l.length
  ·obtain ⟨c,hck'⟩:∃ c,l[k]?=some c:=⟨_,List.getElem?_eq_getElem hlt⟩
   have hck:=hc' k c hck'
   simp only [Nat.lt_irrefl,if_false] at hck
   have hfk:=hf' k hlt
   have hcz:=Lib.hid hc';clear hc'
   have hfz:=Lib.hid hf';clear hf'
   have hcv:=Lib.hid hck';clear hck'
   go_wp2
   ·go_roundw
    case rel =>
     refine ⟨k+1,by omega,by go_num,fun j d h=>?_,fun j h=>by rw [World.frozen?_setCell];exact hfz.out j h,hb'.setCell (Nat.le_refl _) _⟩
     rw [cell_set (hcz.out j d h)]
     by_cases hkj:k=j
     ·subst hkj
      obtain rfl:c=d:=by have:=hcv.out;rw [this] at h;exact Option.some.inj h
      rw [if_pos rfl,if_pos (by omega),lowB_up ‹_› ‹_›]
     ·rw [if_neg hkj]
      have:(j < k+1)=(j < k):=by simp;omega
      simp only [this]
    case measure=>simp [intOf];omega
   all_goals
    go_roundw
    case rel =>
     refine ⟨k+1,by omega,by go_num,fun j d h=>?_,hfz.out,hb'⟩
     rw [hcz.out j d h]
     by_cases hkj:k=j
     ·subst hkj
      obtain rfl:c=d:=by have:=hcv.out;rw [this] at h;exact Option.some.inj h
      rw [if_neg (by omega),if_pos (by omega),lowB_id (by omega)]
     ·have:(j < k+1)=(j < k):=by simp;omega
      simp only [this]
    case measure=>simp [intOf];omega
  ·obtain rfl:k=l.length:=by omega
   have hback:=run_convert_bytes_back (P:=Tryz.prog) wr 41 9 5 ⟨w.heap.size,0,none⟩ cap (lower l) Tryz.underlying41 Tryz.underlying5 Tryz.underlying9 (fun j hj=>by
    have hj':j < l.length:=by simpa [lower] using hj
    have:=hc' j _ (List.getElem?_eq_getElem hj')
    rw [if_pos hj'] at this
    simpa [Addr.add_lit,lower] using this)
   have hl:(lower l).length=l.length:=by simp [lower]
   rw [hl] at hback
   clear hc' hf' hl
   go_wp2
   go_ret
   exact ⟨rfl,hb'⟩
def Ascii (l:Bs):Prop:=∀ (j:Nat) b,l[j]?=some b→b.toNat < 128
set_option maxHeartbeats 400000 in
theorem scheme_any (l:Bs) (w:World) (hs:l.length < 4294967281) (ha:Ascii l) :
  Calls Tryz.prog 210 #[str l] w fun e w'=>e=.returned (str (scheme l))∧Below w.heap.size w w':=by
 have hm:l.length≤maxLen:=by unfold maxLen;omega
 by_cases hc:58 ∈ l
 ·have hcut:cut1 58 l=(l.takeWhile (· != 58),(l.dropWhile (· != 58)).tail,true):=by simp [cut1,hc]
  obtain ⟨r,hr⟩:∃ r,r=(l.dropWhile (· != 58)).tail:=⟨_,rfl⟩
  rw [← hr] at hcut
  have hlt:=takeWhile_len_lt hc
  have hsub:Ascii (l.takeWhile (· != 58)):=by
   intro j b hj
   have:b ∈ l:=List.takeWhile_subset _ (List.mem_of_getElem? hj)
   obtain ⟨i,hi⟩:=List.getElem?_of_mem this
   exact ha i b hi
  have hsch:Hid (scheme l=if (l.takeWhile (· != 58))≠[]∧Lib.containsAny (l.takeWhile (· != 58)) [47,63,35]=false then lower (l.takeWhile (· != 58)) else []):=by
   show scheme l=_;unfold scheme;simp only [hc,true_and]
  generalize l.takeWhile (· != 58)=h at *
  have hcut':=Lib.hid hcut;clear hcut hr
  have ha':=Lib.hid ha;clear ha
  have hsub':=Lib.hid hsub;clear hsub
  by_cases hh:h=[]
  ·subst hh
   go_enter Tryz.func210,Tryz.ntmps210
   go_wp2_with (go_at_call 121;refine (cut1_any _ _ _ hm).mono ?_;rintro e w1 ⟨rfl,hb⟩;simp only [hcut'.out])
   go_ret
   exact ⟨by rw [hsch.out];rfl,hb⟩
  ·have hcon:=(Tryz.strings_ContainsAny_laid ⟨h.toArray⟩ ⟨#[47,63,35]⟩ · (by simp [ByteArray.size];omega) (by decide) (fun j b hj=>hsub'.out j b (by simpa using hj)) (by
    intro j b hj
    match j,hj with
    | 0,hj=>simp at hj;subst hj;decide
    | 1,hj=>simp at hj;subst hj;decide
    | 2,hj=>simp at hj;subst hj;decide))
   dsimp only at hcon
   have hcon':=Lib.hid hcon;clear hcon
   have hh1:(h == [])=false:=by simpa using hh
   have hh2:h.isEmpty=false:=by simpa using hh
   have hsch2:Hid (scheme l=if Lib.containsAny h [47,63,35]=false then lower h else []):=by
    show scheme l=_;rw [hsch.out];simp only [hh,ne_eq,not_false_eq_true,true_and]
   clear hsch
   cases hca:Lib.containsAny h [47,63,35] with
   | true =>
    have hca':=Lib.hid hca;clear hca
    go_enter Tryz.func210,Tryz.ntmps210
    go_wp2_with (first | (go_at_call 121;refine (cut1_any _ _ _ hm).mono ?_;rintro e w1 ⟨rfl,hb⟩;simp only [hcut'.out]) | (go_at_call 218;refine (hcon'.out _).mono ?_;rintro e w2 ⟨rfl,hb2⟩;rw [hca'.out]))
    go_ret
    exact ⟨by rw [hsch2.out,if_neg (by rw [hca'.out];decide)];rfl,hb.trans (hb2.mono hb.size)⟩
   | false =>
    have hca':=Lib.hid hca;clear hca
    go_enter Tryz.func210,Tryz.ntmps210
    go_wp2_with (first | (go_at_call 121;refine (cut1_any _ _ _ hm).mono ?_;rintro e w1 ⟨rfl,hb⟩;simp only [hcut'.out]) | (go_at_call 218;refine (hcon'.out _).mono ?_;rintro e w2 ⟨rfl,hb2⟩;rw [hca'.out]) | (go_at_call 232;refine (lower_any _ _ (by unfold maxLen;omega)).mono ?_;rintro e w3 ⟨rfl,hb3⟩))
    go_ret
    exact ⟨by rw [hsch2.out,if_pos hca'.out];rfl,(hb.trans (hb2.mono hb.size)).trans (hb3.mono (Nat.le_trans hb.size hb2.size))⟩
 ·have hcut:cut1 58 l=(l,[],false):=by simp [cut1,hc]
  have hsch:Hid (scheme l=[]):=by show scheme l=[];unfold scheme;simp only [hc,false_and,if_false]
  have hcut':=Lib.hid hcut;clear hcut
  have ha':=Lib.hid ha;clear ha
  go_enter Tryz.func210,Tryz.ntmps210
  go_wp2_with (go_at_call 121;refine (cut1_any _ _ _ hm).mono ?_;rintro e w1 ⟨rfl,hb⟩;simp only [hcut'.out])
  go_ret
  exact ⟨by rw [hsch.out];rfl,hb⟩
theorem okC_iff (c:UInt8):okC c=true↔(32 < (c.toNat:Int)∧(c.toNat:Int)≤126∧¬ (c.toNat:Int)=34∧¬ (c.toNat:Int)=39∧¬ (c.toNat:Int)=60∧¬ (c.toNat:Int)=62∧¬ (c.toNat:Int)=92∧¬ (c.toNat:Int)=96):=by
 have e:∀ d:UInt8,(c=d)↔(c.toNat:Int)=d.toNat:=fun d=>by rw [← UInt8.toNat_inj];omega
 simp only [okC,Bool.and_eq_true,decide_eq_true_eq,bne_iff_ne,ne_eq,e,UInt8.lt_iff_toNat_lt,UInt8.le_iff_toNat_le]
 simp
 omega
set_option maxHeartbeats 400000 in
theorem schemes_any (w:World) :
  Calls Tryz.prog 209 #[] w fun e w'=>e=.returned (.agg #[str sHttp,str sHttps,str sMailto])∧Below w.heap.size w w':=by
 go_enter Tryz.func209,Tryz.ntmps209
 go_wp2
 exact bodyPost_ret (v:=.agg #[str sHttp,str sHttps,str sMailto]) (by simp [results,Tryz.results209,go_sem,sHttp,sHttps,sMailto]) rfl ⟨rfl,(Below.refl _ _).alloc (Nat.le_refl _) _⟩
def schemesZ:List ByteArray:=[⟨sHttp.toArray⟩,⟨sHttps.toArray⟩,⟨sMailto.toArray⟩]
theorem contains_schemes (x:Bs):Lib.containsS schemesZ ⟨x.toArray⟩=[sHttp,sHttps,sMailto].contains x:=by
 have e:∀ a b:Bs,((⟨a.toArray⟩:ByteArray)=⟨b.toArray⟩)↔a=b:=fun a b=>⟨fun h=>by injection h with h;injection h,fun h=>by rw [h]⟩
 rw [Bool.eq_iff_iff,Lib.containsS_iff]
 simp only [schemesZ,List.mem_cons,e,List.not_mem_nil,or_false,List.contains_eq_mem,decide_eq_true_eq]
theorem schemesCells {w w3:World} (hb:Below (w.alloc (Obj.cells #[str sHttp,str sHttps,str sMailto] 243)).drew.heap.size (w.alloc (Obj.cells #[str sHttp,str sHttps,str sMailto] 243)).drew w3) :
  ∀ j,j < schemesZ.length→w3.cell? ⟨w.heap.size,0+j,none⟩=some (.string (schemesZ.getD j ByteArray.empty)):=by
 intro j hj
 rw [hb.cell (p:=⟨w.heap.size,0+j,none⟩) (by simp)]
 match j,hj with
 | 0,_=>simp;rfl
 | 1,_=>simp;rfl
 | 2,_=>simp;rfl
set_option maxHeartbeats 400000 in
theorem may_any (l:Bs) (w:World) :
  Calls Tryz.prog 182 #[str l] w fun e w'=>e=.returned (.bool (may l))∧Below w.heap.size w w':=by
 by_cases h0:l=[]
 ·subst h0
  go_enter Tryz.func182,Tryz.ntmps182
  go_wp2
  go_ret
  exact ⟨rfl,Below.refl _ _⟩
 have h1:l.isEmpty=false:=by simpa using h0
 have h1':(l == [])=false:=by simpa using h0
 by_cases h24:24 < l.length
 ·have hmay:Hid (may l=false):=by show may l=false;simp [may];omega
  go_enter Tryz.func182,Tryz.ntmps182
  go_wp2
  go_ret
  exact ⟨by rw [hmay.out];rfl,Below.refl _ _⟩
 have h24':l.length≤24:=by omega
 clear h24
 go_enter Tryz.func182,Tryz.ntmps182
 go_wp2_with (refine wpList_bytes_of_string _ rfl 9 41 (.tmp 13) rfl 5 Tryz.underlying9 Tryz.underlying41 Tryz.underlying5 l rfl ?_;intro w1 cap hc hf hz hb)
 go_loopw [4,16] (fun _ i wr=>∃ k:Nat,k≤l.length∧i=.int .i64 k∧(∀ c ∈ l.take k,okC c=true)∧(∀ j c,l[j]?=some c→wr.cell? ⟨w.heap.size,j,none⟩=some (.int .u8 (c.toNat:Int)))∧Below w.heap.size w wr) (fun _ i _=>l.length - (intOf i).toNat)
 case atStart=>exact ⟨0,Nat.zero_le _,rfl,by simp,hc,hb⟩
 case round =>
  obtain ⟨k,hk,rfl,hall,hc',hb'⟩:=hrel
  clear hc hf hz hb
  by_cases hlt:k < l.length
  ·obtain ⟨c,hck'⟩:∃ c,l[k]?=some c:=⟨_,List.getElem?_eq_getElem hlt⟩
   have hck:=hc' k c hck'
   have hcz:=Lib.hid hc';clear hc'
   have hcv:=Lib.hid hck';clear hck'
   have hal:=Lib.hid hall;clear hall
   cases hok:okC c with
   | true =>
    obtain ⟨a1,a2,a3,a4,a5,a6,a7,a8⟩:=(okC_iff c).1 hok
    have b3:((c.toNat:Int) == 34)=false:=by simpa using a3
    have b4:((c.toNat:Int) == 39)=false:=by simpa using a4
    have b5:((c.toNat:Int) == 60)=false:=by simpa using a5
    have b6:((c.toNat:Int) == 62)=false:=by simpa using a6
    have b7:((c.toNat:Int) == 92)=false:=by simpa using a7
    have b8:((c.toNat:Int) == 96)=false:=by simpa using a8
    clear a3 a4 a5 a6 a7 a8
    have hok':=Lib.hid hok;clear hok
    go_wp2
    go_roundw
    case rel =>
     refine ⟨k+1,by omega,by go_num,fun d hd=>?_,hcz.out,hb'⟩
     rw [List.take_add_one,hcv.out] at hd
     simp only [Option.toList_some,List.mem_append,List.mem_singleton] at hd
     rcases hd with hd | rfl
     ·exact hal.out d hd
     ·exact hok'.out
    case measure=>simp [intOf];omega
   | false =>
    have hmay:Hid (may l=false):=by
     show may l=false
     have:l.all okC=false:=by
      rw [List.all_eq_false]
      exact ⟨c,List.mem_of_getElem? hcv.out,by rw [hok];decide⟩
     simp [may,this]
    have hok':=Lib.hid hok;clear hok
    by_cases h96:(c.toNat:Int)=96
    ·have b8:((c.toNat:Int) == 96)=true:=by simpa using h96
     have h96':=Lib.hid h96;clear h96
     go_wp2
     all_goals
      go_ret
      exact ⟨by rw [hmay.out];rfl,hb'⟩
    ·have b8:((c.toNat:Int) == 96)=false:=by simpa using h96
     have h96':=Lib.hid h96;clear h96
     go_wp2
     all_goals first
      | (go_ret;exact ⟨by rw [hmay.out];rfl,hb'⟩)
      | (exfalso;have ht:=(okC_iff c).2 ⟨by assumption,by assumption,by assumption,by assumption,by assumption,by assumption,by assumption,h96'.out⟩;rw [hok'.out] at ht;cases ht)
  ·obtain rfl:k=l.length:=by omega
   rw [List.take_length] at hall
   have hasc:Hid (Ascii l):=fun j b hj=>by
    have:=(okC_iff b).1 (hall b (List.mem_of_getElem? hj))
    omega
   have hmay:Hid (may l=Lib.containsS schemesZ ⟨(scheme l).toArray⟩):=by
    show may l=_
    rw [contains_schemes]
    have:l.all okC=true:=List.all_eq_true.2 hall
    simp [may,this,h24',h0]
   have hal:=Lib.hid hall;clear hall hc'
   go_wp2_with (go_at_call 209;refine (schemes_any _).mono ?_;rintro e w2 ⟨rfl,hb2⟩)
   go_region_with (first | (go_at_call 210;refine (scheme_any l _ (by omega) hasc.out).mono ?_;rintro e w3 ⟨rfl,hb3⟩;have hc3:=schemesCells hb3) | (go_at_call 80;refine (Tryz.slices_Contains_string w2.heap.size 0 3 3 schemesZ ⟨(scheme l).toArray⟩ _ (by decide) (by decide) hc3).mono ?_;rintro e w4 ⟨rfl,rfl⟩))
   all_goals
    go_wp2
    go_ret
    exact ⟨by rw [hmay.out];rfl,((((hb'.trans (hb2.mono hb'.size)).alloc (Nat.le_trans hb'.size hb2.size) _).drew).trans (hb3.mono (by have:=hb'.size;have:=hb2.size;simp;omega)))⟩
end Go.Proofs.YteikncnldbdfmaaGreatDoor
namespace Go.Mh
open Go.RowKit
abbrev pv (p:Pt) (sv:Value):Value:=.agg #[.int .i64 p.k,.int .i64 p.n,sv,.int .i64 p.set,.int .i64 p.clr,.bool p.to,str p.l]
abbrev iv (x:It):Value:=.agg #[.int .u8 x.c.toNat,.int .i64 x.m,str x.l]
def P7 (w:World) (g:Nat) (v0 v1 v2 v3 v4 v5 v6:Value):Prop:=
 w.cell? ⟨g,0,none⟩=some v0∧w.cell? ⟨g,1,none⟩=some v1∧w.cell? ⟨g,2,none⟩=some v2∧w.cell? ⟨g,3,none⟩=some v3∧w.cell? ⟨g,4,none⟩=some v4∧w.cell? ⟨g,5,none⟩=some v5∧w.cell? ⟨g,6,none⟩=some v6
theorem P7.below {w w':World} {g:Nat} {v0 v1 v2 v3 v4 v5 v6:Value} (h:P7 w g v0 v1 v2 v3 v4 v5 v6) (hb:Below w.heap.size w w'):P7 w' g v0 v1 v2 v3 v4 v5 v6:=by
 obtain ⟨h0,h1,h2,h3,h4,h5,h6⟩:=h
 exact ⟨(hb.cell (p:=⟨g,0,none⟩) (lt_of_cell h0)).trans h0,(hb.cell (p:=⟨g,1,none⟩) (lt_of_cell h1)).trans h1,(hb.cell (p:=⟨g,2,none⟩) (lt_of_cell h2)).trans h2,(hb.cell (p:=⟨g,3,none⟩) (lt_of_cell h3)).trans h3,
  (hb.cell (p:=⟨g,4,none⟩) (lt_of_cell h4)).trans h4,(hb.cell (p:=⟨g,5,none⟩) (lt_of_cell h5)).trans h5,(hb.cell (p:=⟨g,6,none⟩) (lt_of_cell h6)).trans h6⟩
theorem ROp.at {F:Nat→Prop} {w wr:World} {a:Option Addr} {n cap:Nat} {L:List Pt} (h:ROp F w (.slice a n cap) L) (hb:Below w.heap.size w wr) {k:Nat} {x:Pt} (hx:L[k]?=some x) :
  ∃ b o sv,a=some ⟨b,o,none⟩∧RItems F wr sv x.its∧wr.cell? ⟨b,o+k * 7,none⟩=some (.int .i64 x.k)∧wr.cell? ⟨b,o+k * 7+1,none⟩=some (.int .i64 x.n)∧wr.cell? ⟨b,o+k * 7+2,none⟩=some sv ∧
   wr.cell? ⟨b,o+k * 7+3,none⟩=some (.int .i64 x.set)∧wr.cell? ⟨b,o+k * 7+4,none⟩=some (.int .i64 x.clr)∧wr.cell? ⟨b,o+k * 7+5,none⟩=some (.bool x.to)∧wr.cell? ⟨b,o+k * 7+6,none⟩=some (str x.l):=by
 obtain ⟨a',cap',e,_,_,_,hel⟩:=h
 cases e
 obtain ⟨b,o,cs,h1,_,_,hat,sv,hR,hits⟩:=hel k x hx
 subst hR
 exact ⟨b,o,sv,h1,hits.to (Kp.below hb),(hat.to (hb.block b (hat.lt (by simp)))).seven⟩
theorem RdS.none_nil {α:Type} {sz:Nat} {R:World→List Value→α→Prop} {F:Nat→Prop} {w:World} {n c:Nat} {L:List α} (h:RdS sz R F w (.slice none n c) L):L=[]∧c=0:=by
 obtain ⟨a,cap,e,_,_,h0,hel⟩:=h
 cases e
 refine ⟨?_,h0 rfl⟩
 cases L with
 | nil=>rfl
 | cons x L=>obtain ⟨b,o,cs,h1,_⟩:=hel 0 x rfl;cases h1
theorem OwnS.empty {α:Type} {base e sz:Nat} {R:World→List Value→α→Prop} {w:World} {g:Nat} (hg:base≤g) (hh:w.heap[g]?=some (.cells #[] e (0,0))):OwnS base e sz R w (.slice (some ⟨g,0,none⟩) 0 0) ([]:List α):=
 ⟨[],⟨by simp,Or.inr ⟨g,0,#[],rfl,hg,hh,Nat.le_refl _,by simp [maxLen],by simp,by simp⟩⟩,rfl,fun i cs x h=>by simp at h⟩
end Go.Mh
namespace Go.Mh
open Go.RowKit
theorem run_append_tx {P:Program} (t tx ty e e':TypeId) (ht:P.underlying t=some (.slice e)) (hx:P.underlying tx=some (.slice e')) (v x:Value) (w:World) :
  (Builtin.append_ #[t,tx] ty #[v,x]).run P w=(Builtin.append_ #[t,t] ty #[v,x]).run P w:=by
 unfold Builtin.append_
 cases v with
 | slice b l c=>simp [run_underlying ht,run_underlying hx]
 | _=>simp [run_underlying ht]
theorem wpList_append_own2 {P:Program} (w:World) {ops:Array Oper} {rest:List Oper} {o:Oper} {a:Act} {Q:Exit→Act→World→Prop} (hgd:o.guard=none) (s x:Operand) (t tx e':TypeId) (htx:P.underlying tx=some (.slice e'))
  (ho:o.op=.call { callee:=.builtin .append,args:=#[s,x],argTypes:=#[t,tx] })
  (base:Nat) (e:TypeId) (i:TypeInfo) (z:Value) (size bytes:Nat) (ht:P.underlying t=some (.slice e)) (hi:P.info? e=some i) (hz:i.zero=some z)
  (hsize:i.size=size) (hby:i.bytes=bytes) (hzs:z.cells.size=size) (hsz:0 < size)
  (v:Value) (n:Nat) (xs:List Value) (hs:a.eval s=v) (hown:w.ownsRow base e size v n xs)
  (ad:Addr) (m c:Nat) (news:List Value) (hx:a.eval x=.slice (some ad) m c) (hl:news.length=m * size) (hnews:∀ j u,news[j]?=some u→w.cell? (ad.add j)=some u) (h1:∀ u ∈ news,u.oneCell'=true)
  (h63:n+m≤maxLen) (hbytes:(n+m) * bytes≤140737488355328) (hbase:base≤w.heap.size)
  (h:∀ v' w',w'.ownsRow base e size v' (n+m) (xs ++ news)→w.grownBy w' v.ownBlock→(v'=.slice none 0 0↔v=.slice none 0 0∧m=0)→wpList P ops Q rest (a.put o.dst v') w'):wpList P ops Q (o :: rest) a w:=by
 refine wpList_plain hgd fun K hK=>?_
 obtain ⟨v',w',hr,h2,h3,h4⟩:=run_append_own (P:=P) w base t o.type e i z size bytes ht hi hz hsize hby hzs hsz v n xs hown ad m c news hl hnews h1 h63 hbytes hbase
 unfold Oper.wp execOp
 simp only [ho,resolve,invoke,builtin,Sem.run_bind,Sem.run_pure,Result.andThen_ok,List.map_toArray,List.map_cons,List.map_nil,hs,hx,run_append_tx t tx o.type e e' ht htx,hr]
 exact hK _ _ (h v' w' h2 h3 h4)
theorem wpList_append_own_none2 {P:Program} {w:World} {ops:Array Oper} {rest:List Oper} {o:Oper} {a:Act} {Q:Exit→Act→World→Prop} (hgd:o.guard=none) (s x:Operand) (t tx e':TypeId) (htx:P.underlying tx=some (.slice e'))
  (ho:o.op=.call { callee:=.builtin .append,args:=#[s,x],argTypes:=#[t,tx] })
  (base:Nat) (e:TypeId) (i:TypeInfo) (size:Nat) (ht:P.underlying t=some (.slice e)) (hi:P.info? e=some i)
  (v:Value) (n:Nat) (xs:List Value) (hs:a.eval s=v) (hown:w.ownsRow base e size v n xs) (hx:a.eval x=.slice none 0 0)
  (h:wpList P ops Q rest (a.put o.dst v) w):wpList P ops Q (o :: rest) a w:=by
 refine wpList_plain hgd fun K hK=>?_
 have hrun:=run_append_owned_none (P:=P) (w:=w) base t o.type e i size ht hi v n xs hown
 unfold Oper.wp
 simp [execOp,ho,resolve,invoke,builtin,hs,hx,run_append_tx t tx o.type e e' ht htx,hrun,Result.andThen]
 exact hK _ _ h
theorem wpList_app2 {P:Program} {w:World} {ops:Array Oper} {rest:List Oper} {o:Oper} {a:Act} {Q:Exit→Act→World→Prop} (hgd:o.guard=none) (s x:Operand) (t tx e':TypeId) (htx:P.underlying tx=some (.slice e'))
  (ho:o.op=.call { callee:=.builtin .append,args:=#[s,x],argTypes:=#[t,tx] })
  {α:Type} (base e sz bytes:Nat) (z:Value) (hel:El P t e sz bytes z) (R:World→List Value→α→Prop) (v:Value) (L M:List α) (hs:a.eval s=v) (hown:OwnS base e sz R w v L)
  (F:Nat→Prop) (xv:Value) (hx:a.eval x=xv) (hsrc:RdS sz R F w xv M) (h1c:∀ w cs x,R w cs x→∀ u ∈ cs,u.oneCell'=true)
  (h63:L.length+M.length≤maxLen) (hbytes:(L.length+M.length) * bytes≤140737488355328) (hbase:base≤w.heap.size)
  (hRk:∀ w',w.grownBy w' v.ownBlock→∀ cs x,x ∈ L ++ M→R w cs x→R w' cs x)
  (h:∀ v' w',OwnS base e sz R w' v' (L ++ M)→w.grownBy w' v.ownBlock→Below base w w'→wpList P ops Q rest (a.put o.dst v') w'):wpList P ops Q (o :: rest) a w:=by
 obtain ⟨css,hrow,h2,h3⟩:=hown
 obtain ⟨i,hi,hz,hsize,hby⟩:=info_parts hel.info
 obtain ⟨ao,cap,rfl,hl1,hl2,hl3,hsr⟩:=hsrc
 have hlt:=hrow.lt
 -- the source's cells
 obtain ⟨ccs,hcl,hcc⟩:∃ ccs:List (List Value),ccs.length=M.length∧∀ (i:Nat) (cs:List Value) (x:α),ccs[i]?=some cs→M[i]?=some x→∃ b o,ao=some ⟨b,o,none⟩∧cs.length=sz∧At w b (o+i * sz) cs∧R w cs x:=by
  clear hl1 hx h63 hbytes hRk h
  have:∀ n,n≤M.length→∃ ccs:List (List Value),ccs.length=n∧∀ (i:Nat) (cs:List Value) (x:α),ccs[i]?=some cs→M[i]?=some x→∃ b o,ao=some ⟨b,o,none⟩∧cs.length=sz∧At w b (o+i * sz) cs∧R w cs x:=by
   intro n
   induction n with
   | zero=>intro _;exact ⟨[],rfl,fun i cs x hi=>by simp at hi⟩
   | succ n ih =>
    intro hn
    obtain ⟨ccs,hl,hc⟩:=ih (by omega)
    obtain ⟨b,o',cs,h1,_,h4,h5,h6⟩:=hsr n M[n] (List.getElem?_eq_getElem (by omega))
    refine ⟨ccs ++ [cs],by simp [hl],fun i cs' x hi hx=>?_⟩
    rcases Nat.lt_or_ge i ccs.length with hlt | hge
    ·rw [List.getElem?_append_left hlt] at hi
     exact hc i cs' x hi hx
    ·rw [List.getElem?_append_right hge] at hi
     obtain rfl:i=n:=by
      have:=(List.getElem?_eq_some_iff.1 hi).1
      simp at this
      omega
     simp [hl] at hi
     subst hi
     rw [List.getElem?_eq_getElem (by omega)] at hx
     obtain rfl:=Option.some.inj hx
     exact ⟨b,o',h1,h4,h5,h6⟩
  exact this M.length (Nat.le_refl _)
 have hcsz:∀ (i:Nat) (cs:List Value),ccs[i]?=some cs→cs.length=sz:=fun i cs hi=>by
  have hl:i < M.length:=by rw [← hcl];exact (List.getElem?_eq_some_iff.1 hi).1
  obtain ⟨_,_,_,h,_⟩:=hcc i cs M[i] hi (List.getElem?_eq_getElem hl)
  exact h
 have hfin:∀ w',w.grownBy w' v.ownBlock→∀ (i:Nat) (cs:List Value) (x:α),(css ++ ccs)[i]?=some cs→(L ++ M)[i]?=some x→cs.length=sz∧R w' cs x∧∀ u ∈ cs,u.oneCell'=true:=by
  intro w' hg i cs x hi hx
  have hm:=List.mem_of_getElem? hx
  rcases Nat.lt_or_ge i css.length with hlt | hge
  ·rw [List.getElem?_append_left hlt] at hi
   rw [List.getElem?_append_left (by omega)] at hx
   obtain ⟨a1,a2,a3⟩:=h3 i cs x hi hx
   exact ⟨a1,hRk w' hg cs x hm a2,a3⟩
  ·rw [List.getElem?_append_right hge] at hi
   rw [List.getElem?_append_right (by omega),← h2] at hx
   obtain ⟨b,o',_,h4,h5,h6⟩:=hcc _ cs x hi hx
   exact ⟨h4,hRk w' hg cs x hm h6,h1c _ _ _ h6⟩
 have hbel:∀ w',w.grownBy w' v.ownBlock→Below base w w':=fun w' hg=>(Below.refl base w).grown hg hbase fun k hk=>(hlt k hk).1
 cases ao with
 | none =>
  have hM:M=[]:=by
   cases M with
   | nil=>rfl
   | cons y M=>obtain ⟨_,_,_,h,_⟩:=hsr 0 y rfl;simp at h
  subst hM
  have hc0:=hl3 rfl
  subst hc0
  refine wpList_append_own_none2 hgd s x t tx e' htx ho base e i sz hel.under hi v L.length css.flatten hs hrow hx ?_
  have hcc0:ccs=[]:=List.eq_nil_of_length_eq_zero hcl
  subst hcc0
  have hg:w.grownBy w v.ownBlock:=World.grownBy.refl w _
  refine h v w ⟨css,by simpa using hrow,by simpa using h2,by simpa using hfin w hg⟩ hg (hbel w hg)
 | some ad =>
  refine wpList_append_own2 w hgd s x t tx e' htx ho base e i z sz bytes hel.under hi hz hsize hby hel.cells hel.pos v L.length css.flatten hs hrow ad M.length cap ccs.flatten hx (by rw [len_flatten hcsz,hcl]) ?_ ?_ h63 hbytes hbase ?_
  ·intro j u hj
   have hlen:=len_flatten hcsz
   have hj':=(List.getElem?_eq_some_iff.1 hj).1
   have hpos:=hel.pos
   have hdm:=Nat.div_add_mod j sz
   have hmod:=Nat.mod_lt j hpos
   have hdl:j / sz < ccs.length:=by
    rw [Nat.div_lt_iff_lt_mul hpos];omega
   obtain ⟨cs,hcs⟩:∃ cs,ccs[j / sz]?=some cs:=⟨_,List.getElem?_eq_getElem hdl⟩
   obtain ⟨b,o',hao,h4,h5,h6⟩:=hcc _ cs M[j / sz] hcs (List.getElem?_eq_getElem (by omega))
   obtain rfl:=Option.some.inj hao
   obtain ⟨u',hu'⟩:∃ u',cs[j % sz]?=some u':=⟨_,List.getElem?_eq_getElem (by omega)⟩
   have hf:=get_flatten hcsz hcs hu'
   rw [show j / sz * sz+j % sz=j by rw [Nat.mul_comm];exact hdm] at hf
   rw [hf] at hj
   obtain rfl:=Option.some.inj hj
   rw [Addr.add_lit,show o'+j=o'+j / sz * sz+j % sz by rw [Nat.mul_comm (j / sz)];omega]
   exact h5 _ _ hu'
  ·intro u hu
   obtain ⟨cs,hcs,hu⟩:=List.mem_flatten.1 hu
   obtain ⟨i',hi'⟩:=List.getElem?_of_mem hcs
   have hl:i' < M.length:=by rw [← hcl];exact (List.getElem?_eq_some_iff.1 hi').1
   obtain ⟨_,_,_,_,_,h6⟩:=hcc i' cs M[i'] hi' (List.getElem?_eq_getElem hl)
   exact h1c _ _ _ h6 u hu
  ·intro v' w' hown' hg _
   exact h v' w' ⟨css ++ ccs,by simpa using hown',by simp [h2,hcl],hfin w' hg⟩ hg (hbel w' hg)
theorem OwnS.ne {α:Type} {base e sz:Nat} {R:World→List Value→α→Prop} {w:World} {v:Value} {L:List α} (h:OwnS base e sz R w v L) {g:Nat} {xs:Array Value} {T:Nat} {fr:Nat × Nat} (hg:w.heap[g]?=some (.cells xs T fr)) (hT:T≠e):some g≠v.ownBlock:=by
 obtain ⟨css,⟨_,h1⟩,_⟩:=h
 rcases h1 with ⟨rfl,_⟩ | ⟨g',cap,cur,rfl,_,hh,_⟩
 ·simp [Value.ownBlock]
 ·simp only [Value.ownBlock,ne_eq,Option.some.injEq]
  rintro rfl
  rw [hh] at hg
  simp at hg
  exact hT hg.2.1.symm
theorem P7.of {w:World} {g T:Nat} {fr:Nat × Nat} {v0 v1 v2 v3 v4 v5 v6:Value} (h:w.heap[g]?=some (.cells #[v0,v1,v2,v3,v4,v5,v6] T fr)):P7 w g v0 v1 v2 v3 v4 v5 v6:=by
 refine ⟨?_, ?_, ?_, ?_, ?_, ?_, ?_⟩ <;> (unfold World.cell?;rw [h];rfl)
theorem lt_of_heap {w:World} {g:Nat} {o:Obj} (h:w.heap[g]?=some o):g < w.heap.size:=(Array.getElem?_eq_some_iff.1 h).1
end Go.Mh
namespace Go.Mh
open Go.RowKit
def Ty (T:TypeId) (w:World) (k:Nat):Prop:=∃ xs fr,w.heap[k]?=some (.cells xs T fr)
def RPtI (T:TypeId) (w:World) (cs:List Value) (p:Pt):Prop:=RPt (Ty T w) w cs p
theorem RPtI.keep {T:TypeId} {w w':World} {cs:List Value} {p:Pt} (h:RPtI T w cs p) (hk:∀ k,Ty T w k→w'.heap[k]?=w.heap[k]?):RPtI T w' cs p:=
 RPt.to h fun k hF _=>⟨by obtain ⟨xs,fr,e⟩:=hF;exact ⟨xs,fr,(hk k ⟨xs,fr,e⟩).trans e⟩,hk k hF⟩
theorem Ty.lt {T:TypeId} {w:World} {k:Nat} (h:Ty T w k):k < w.heap.size:=by obtain ⟨xs,fr,e⟩:=h;exact lt_of_heap e
theorem RPtI.below {T:TypeId} {w w':World} {cs:List Value} {p:Pt} (h:RPtI T w cs p) (hb:Below w.heap.size w w'):RPtI T w' cs p:=h.keep fun k hk=>hb.block k hk.lt
theorem RPtI.one {T:TypeId}:∀ (w:World) (cs:List Value) (x:Pt),RPtI T w cs x→∀ u ∈ cs,u.oneCell'=true:=fun w cs x h=>RPt_one _ w cs x h
theorem RPtI.rpt {T:TypeId} {w:World} {cs:List Value} {p:Pt} (h:RPtI T w cs p):RPt (fun _=>True) w cs p:=RPt.to h (Kp.weak w fun _ _=>trivial)
theorem RItemsT_keep {T:TypeId} {w w':World} {v:Value} {L:List It} (h:RItems (Ty T w) w v L) (hk:∀ k,Ty T w k→w'.heap[k]?=w.heap[k]?):RItems (Ty T w') w' v L:=
 RItems.to h fun k hF _=>⟨by obtain ⟨xs,fr,e⟩:=hF;exact ⟨xs,fr,(hk k ⟨xs,fr,e⟩).trans e⟩,hk k hF⟩
theorem RItemsT_below {T:TypeId} {w w':World} {v:Value} {L:List It} (h:RItems (Ty T w) w v L) (hb:Below w.heap.size w w'):RItems (Ty T w') w' v L:=RItemsT_keep h fun k hk=>hb.block k hk.lt
theorem Ty.ne {T T':TypeId} {w:World} {k g:Nat} {xs:Array Value} {fr:Nat × Nat} (h:Ty T w k) (hg:w.heap[g]?=some (.cells xs T' fr)) (hT:T≠T'):k≠g:=by
 rintro rfl
 obtain ⟨ys,f2,e⟩:=h
 rw [hg] at e
 simp at e
 exact hT e.2.1.symm
theorem OwnS.rdT {α:Type} {base e sz:Nat} {R:World→List Value→α→Prop} {w:World} {v:Value} {L:List α} (h:OwnS base e sz R w v L):RdS sz R (Ty e w) w v L:=by
 have h0:=h
 obtain ⟨css,⟨_,h1⟩,_⟩:=h0
 have hr:=h.rd
 rcases h1 with ⟨rfl,hn⟩ | ⟨g,cap,cur,rfl,hg,hh,_⟩
 ·obtain rfl:=List.eq_nil_of_length_eq_zero hn
  exact RdS.nil
 ·obtain ⟨a,c,e1,h2,h3,h4,h5⟩:=hr
  cases e1
  refine ⟨_,_,rfl,h2,h3,h4,fun i x hx=>?_⟩
  obtain ⟨b,o,cs,e2,_,h6,h7,h8⟩:=h5 i x hx
  cases e2
  exact ⟨_,_,cs,rfl,⟨cur,_,hh⟩,h6,h7,h8⟩
theorem OwnS.readT {base e:Nat} {T:TypeId} {w:World} {v:Value} {L:List Pt} (h:OwnS base e 7 (RPtI T) w v L):ROp (fun _=>True) w v L:=
 RdS.to h.rd (by decide) (fun _ _ _=>⟨trivial,rfl⟩) fun _ _ _ r=>r.rpt
theorem flatten_set {css:List (List Value)} {sz:Nat} (h:∀ (i:Nat) (cs:List Value),css[i]?=some cs→cs.length=sz) {k j:Nat} {cs:List Value} (u:Value) (hk:css[k]?=some cs) (hj:j < sz):(css.set k (cs.set j u)).flatten=css.flatten.set (k * sz+j) u:=by
 induction css generalizing k with
 | nil=>simp at hk
 | cons a css ih =>
  have h0:=h 0 a rfl
  cases k with
  | zero =>
   simp at hk
   subst hk
   simp only [List.set_cons_zero,List.flatten_cons,Nat.zero_mul,Nat.zero_add]
   rw [List.set_append_left _ _ (by omega)]
  | succ k =>
   simp only [List.getElem?_cons_succ] at hk
   have:=ih (fun i cs hi=>h (i+1) cs (by simpa using hi)) hk
   simp only [List.set_cons_succ,List.flatten_cons,this]
   rw [List.set_append_right _ _ (by rw [h0,Nat.succ_mul];omega)]
   congr 2
   rw [h0,Nat.succ_mul];omega
theorem OwnS.shape {α:Type} {base e sz:Nat} {R:World→List Value→α→Prop} {w:World} {v:Value} {L:List α} (h:OwnS base e sz R w v L) (hn:L≠[]):∃ g cap cur,v=.slice (some ⟨g,0,none⟩) L.length cap∧base≤g∧w.heap[g]?=some (.cells cur e (0,0)):=by
 obtain ⟨css,⟨_,h1⟩,_⟩:=h
 rcases h1 with ⟨_,h0⟩ | ⟨g,cap,cur,e1,hg,hh,_⟩
 ·exact absurd (List.eq_nil_of_length_eq_zero h0) hn
 ·exact ⟨g,cap,cur,e1,hg,hh⟩
theorem OwnS.read {base e:Nat} {F:Nat→Prop} {w:World} {v:Value} {L:List Pt} (h:OwnS base e 7 (RPt F) w v L):ROp (fun _=>True) w v L:=
 RdS.to h.rd (by decide) (fun _ _ _=>⟨trivial,rfl⟩) fun _ _ _ r=>RPt.to r (Kp.weak w fun _ _=>trivial)
theorem set_self {α:Type} {L:List α} {k:Nat} {x:α} (h:L[k]?=some x):L.set k x=L:=by
 obtain ⟨hlt,rfl⟩:=List.getElem?_eq_some_iff.1 h
 exact List.set_getElem_self hlt
theorem OwnS.set {α:Type} {base e sz:Nat} {R R':World→List Value→α→Prop} {w:World} {g n cap:Nat} {L:List α} (h:OwnS base e sz R w (.slice (some ⟨g,0,none⟩) n cap) L) {k j:Nat} {x x':α} (hx:L[k]?=some x) (hj:j < sz) (u:Value) (hu:u.oneCell'=true)
  (hR:∀ cs y,y ∈ L→R w cs y→R' (w.setCell ⟨g,k * sz+j,none⟩ u) cs y) (hRx:∀ cs,cs.length=sz→R w cs x→R' (w.setCell ⟨g,k * sz+j,none⟩ u) (cs.set j u) x'):OwnS base e sz R' (w.setCell ⟨g,k * sz+j,none⟩ u) (.slice (some ⟨g,0,none⟩) n cap) (L.set k x'):=by
 obtain ⟨css,⟨h0,h1⟩,h2,h3⟩:=h
 have hkl:k < L.length:=(List.getElem?_eq_some_iff.1 hx).1
 have hsz:∀ (i:Nat) (cs:List Value),css[i]?=some cs→cs.length=sz:=fun i cs hi=>by
  have hl:i < L.length:=by rw [← h2];exact (List.getElem?_eq_some_iff.1 hi).1
  exact (h3 i cs L[i] hi (List.getElem?_eq_getElem hl)).1
 obtain ⟨cs,hcs⟩:∃ cs,css[k]?=some cs:=⟨_,List.getElem?_eq_getElem (by omega)⟩
 rcases h1 with ⟨e1,_⟩ | ⟨g',cap',cur,e1,hg,hh,hle,hm,hcur,htake⟩
 ·simp at e1
 ·simp only [Value.slice.injEq,Option.some.injEq,Addr.mk.injEq,and_true] at e1
  obtain ⟨rfl,rfl,rfl⟩:=e1
  have hlen:=len_flatten hsz
  refine ⟨css.set k (cs.set j u),⟨by rw [List.length_set,flatten_set hsz u hcs hj,List.length_set];exact h0,Or.inr ⟨g,cap,cur.setIfInBounds (k * sz+j) u,by simp,hg, ?_,by rw [List.length_set];exact hle,hm,by simpa using hcur, ?_⟩⟩,by simp [h2],fun i cs' y hi hy=>?_⟩
  ·exact heap_setCell_same w g _ cur e u hh
  ·rw [List.length_set,flatten_set hsz u hcs hj,← htake,Array.toList_setIfInBounds,List.take_set]
  ·by_cases hik:i=k
   ·subst hik
    rw [List.getElem?_set_self (by omega)] at hi
    rw [List.getElem?_set_self (by omega)] at hy
    cases hi
    cases hy
    obtain ⟨a,b,c⟩:=h3 i cs x hcs hx
    refine ⟨by simpa using a,hRx cs a b,fun z hz=>?_⟩
    rcases List.mem_or_eq_of_mem_set hz with hz | rfl
    ·exact c z hz
    ·exact hu
   ·rw [List.getElem?_set_ne (by omega)] at hi hy
    obtain ⟨a,b,c⟩:=h3 i cs' y hi hy
    exact ⟨a,hR cs' y (List.mem_of_getElem? hy) b,c⟩
theorem wpList_appP {P:Program} {w:World} {ops:Array Oper} {rest:List Oper} {o:Oper} {a:Act} {Q:Exit→Act→World→Prop} (hgd:o.guard=none) (s x:Operand) (t:TypeId)
  (ho:o.op=.call { callee:=.builtin .append,args:=#[s,x],argTypes:=#[t,t] })
  (base e bytes T:Nat) (hT:T≠e) (z:Value) (hel:El P t e 7 bytes z) (v:Value) (L:List Pt) (hs:a.eval s=v) (hown:OwnS base e 7 (RPtI T) w v L)
  (y:Pt) (sv:Value) (g:Nat) (hx:a.eval x=.slice (some ⟨g,0,none⟩) 1 1) (hg:g=w.heap.size) (hR1:RItems (Ty T w) w sv y.its)
  (h63:L.length+1≤maxLen) (hbytes:(L.length+1) * bytes≤140737488355328) (hbase:base≤w.heap.size)
  (h:∀ v' w',OwnS base e 7 (RPtI T) w' v' (L ++ [y])→Below base w w'→w.heap.size < w'.heap.size→(∀ k,k < w.heap.size→some k≠v.ownBlock→w'.heap[k]?=w.heap[k]?)→wpList P ops Q rest (a.put o.dst v') w') :
  wpList P ops Q (o :: rest) a (w.alloc (.cells #[.int .i64 y.k,.int .i64 y.n,sv,.int .i64 y.set,.int .i64 y.clr,.bool y.to,str y.l] e)):=by
 subst hg
 have hb0:Below w.heap.size w (w.alloc (.cells #[.int .i64 y.k,.int .i64 y.n,sv,.int .i64 y.set,.int .i64 y.clr,.bool y.to,str y.l] e)):=(Below.refl _ _).alloc (Nat.le_refl _) _
 have hcomb:∀ w',(w.alloc (.cells #[.int .i64 y.k,.int .i64 y.n,sv,.int .i64 y.set,.int .i64 y.clr,.bool y.to,str y.l] e)).grownBy w' v.ownBlock→∀ k,k < w.heap.size→some k≠v.ownBlock→w'.heap[k]?=w.heap[k]?:=fun w' hg k hk hne=>by
  rw [hg.block k (by simp;omega) hne];exact hb0.block k hk
 have hyb:RPtI T (w.alloc (.cells #[.int .i64 y.k,.int .i64 y.n,sv,.int .i64 y.set,.int .i64 y.clr,.bool y.to,str y.l] e)) [.int .i64 y.k,.int .i64 y.n,sv,.int .i64 y.set,.int .i64 y.clr,.bool y.to,str y.l] y:=
  RPtI.below (w:=w) ⟨sv,rfl,hR1⟩ hb0
 have hown1:=hown.below hb0 (fun cs' x' _ r=>r.below hb0)
 refine wpList_app hgd s x t ho base e 7 bytes z hel (RPtI T) v L [y] hs hown1 (fun _=>True) _ hx
  (RdS.one [.int .i64 y.k,.int .i64 y.n,sv,.int .i64 y.set,.int .i64 y.clr,.bool y.to,str y.l] e rfl trivial hyb) RPtI.one (by simpa using h63) (by simpa using hbytes) (by simp;omega) ?_ ?_
 ·intro w' hg cs' x' _ r
  exact r.keep fun k hk=>hg.block k hk.lt (by obtain ⟨xs,fr,hk⟩:=hk;exact hown1.ne hk hT)
 ·intro v' w' hown' hg hb
  exact h v' w' hown' (((Below.refl _ _).alloc hbase _).trans hb) (by have:=hg.size;simp at this;omega) (hcomb w' hg)
end Go.Mh
namespace Go.Mh
open Go.RowKit
theorem run_app {P:Program} {w:World} (t ty:TypeId) {α:Type} (base e sz bytes:Nat) (z:Value) (hel:El P t e sz bytes z) (R:World→List Value→α→Prop) (v:Value) (L M:List α) (hown:OwnS base e sz R w v L)
  (F:Nat→Prop) (xv:Value) (hsrc:RdS sz R F w xv M) (h1c:∀ w cs x,R w cs x→∀ u ∈ cs,u.oneCell'=true)
  (h63:L.length+M.length≤maxLen) (hbytes:(L.length+M.length) * bytes≤140737488355328) (hbase:base≤w.heap.size)
  (hRk:∀ w',w.grownBy w' v.ownBlock→∀ cs x,x ∈ L ++ M→R w cs x→R w' cs x) :
  ∃ v' w',(Builtin.append_ #[t,t] ty #[v,xv]).run P w=.ok v' w'∧OwnS base e sz R w' v' (L ++ M)∧w.grownBy w' v.ownBlock∧Below base w w'∧(v'.ownBlock=v.ownBlock∨v'.ownBlock=some w.heap.size):=by
 obtain ⟨css,hrow,h2,h3⟩:=hown
 obtain ⟨i,hi,hz,hsize,hby⟩:=info_parts hel.info
 obtain ⟨ao,cap,rfl,hl1,hl2,hl3,hsr⟩:=hsrc
 have hlt:=hrow.lt
 -- the source's cells
 obtain ⟨ccs,hcl,hcc⟩:∃ ccs:List (List Value),ccs.length=M.length∧∀ (i:Nat) (cs:List Value) (x:α),ccs[i]?=some cs→M[i]?=some x→∃ b o,ao=some ⟨b,o,none⟩∧cs.length=sz∧At w b (o+i * sz) cs∧R w cs x:=by
  clear hl1 h63 hbytes hRk
  have:∀ n,n≤M.length→∃ ccs:List (List Value),ccs.length=n∧∀ (i:Nat) (cs:List Value) (x:α),ccs[i]?=some cs→M[i]?=some x→∃ b o,ao=some ⟨b,o,none⟩∧cs.length=sz∧At w b (o+i * sz) cs∧R w cs x:=by
   intro n
   induction n with
   | zero=>intro _;exact ⟨[],rfl,fun i cs x hi=>by simp at hi⟩
   | succ n ih =>
    intro hn
    obtain ⟨ccs,hl,hc⟩:=ih (by omega)
    obtain ⟨b,o',cs,h1,_,h4,h5,h6⟩:=hsr n M[n] (List.getElem?_eq_getElem (by omega))
    refine ⟨ccs ++ [cs],by simp [hl],fun i cs' x hi hx=>?_⟩
    rcases Nat.lt_or_ge i ccs.length with hlt | hge
    ·rw [List.getElem?_append_left hlt] at hi
     exact hc i cs' x hi hx
    ·rw [List.getElem?_append_right hge] at hi
     obtain rfl:i=n:=by
      have:=(List.getElem?_eq_some_iff.1 hi).1
      simp at this
      omega
     simp [hl] at hi
     subst hi
     rw [List.getElem?_eq_getElem (by omega)] at hx
     obtain rfl:=Option.some.inj hx
     exact ⟨b,o',h1,h4,h5,h6⟩
  exact this M.length (Nat.le_refl _)
 have hcsz:∀ (i:Nat) (cs:List Value),ccs[i]?=some cs→cs.length=sz:=fun i cs hi=>by
  have hl:i < M.length:=by rw [← hcl];exact (List.getElem?_eq_some_iff.1 hi).1
  obtain ⟨_,_,_,h,_⟩:=hcc i cs M[i] hi (List.getElem?_eq_getElem hl)
  exact h
 have hfin:∀ w',w.grownBy w' v.ownBlock→∀ (i:Nat) (cs:List Value) (x:α),(css ++ ccs)[i]?=some cs→(L ++ M)[i]?=some x→cs.length=sz∧R w' cs x∧∀ u ∈ cs,u.oneCell'=true:=by
  intro w' hg i cs x hi hx
  have hm:=List.mem_of_getElem? hx
  rcases Nat.lt_or_ge i css.length with hlt | hge
  ·rw [List.getElem?_append_left hlt] at hi
   rw [List.getElem?_append_left (by omega)] at hx
   obtain ⟨a1,a2,a3⟩:=h3 i cs x hi hx
   exact ⟨a1,hRk w' hg cs x hm a2,a3⟩
  ·rw [List.getElem?_append_right hge] at hi
   rw [List.getElem?_append_right (by omega),← h2] at hx
   obtain ⟨b,o',_,h4,h5,h6⟩:=hcc _ cs x hi hx
   exact ⟨h4,hRk w' hg cs x hm h6,h1c _ _ _ h6⟩
 have hbel:∀ w',w.grownBy w' v.ownBlock→Below base w w':=fun w' hg=>(Below.refl base w).grown hg hbase fun k hk=>(hlt k hk).1
 cases ao with
 | none =>
  have hM:M=[]:=by
   cases M with
   | nil=>rfl
   | cons y M=>obtain ⟨_,_,_,h,_⟩:=hsr 0 y rfl;simp at h
  subst hM
  have hc0:=hl3 rfl
  subst hc0
  have hrun:=run_append_owned_none (P:=P) (w:=w) base t ty e i sz hel.under hi v L.length css.flatten hrow
  have hcc0:ccs=[]:=List.eq_nil_of_length_eq_zero hcl
  subst hcc0
  have hg:w.grownBy w v.ownBlock:=World.grownBy.refl w _
  exact ⟨v,w,hrun,⟨css,by simpa using hrow,by simpa using h2,by simpa using hfin w hg⟩,hg,hbel w hg,Or.inl rfl⟩
 | some ad =>
  have k1:∀ j u,ccs.flatten[j]?=some u→w.cell? (ad.add j)=some u:=by
   intro j u hj
   have hlen:=len_flatten hcsz
   have hj':=(List.getElem?_eq_some_iff.1 hj).1
   have hpos:=hel.pos
   have hdm:=Nat.div_add_mod j sz
   have hmod:=Nat.mod_lt j hpos
   have hdl:j / sz < ccs.length:=by
    rw [Nat.div_lt_iff_lt_mul hpos];omega
   obtain ⟨cs,hcs⟩:∃ cs,ccs[j / sz]?=some cs:=⟨_,List.getElem?_eq_getElem hdl⟩
   obtain ⟨b,o',hao,h4,h5,h6⟩:=hcc _ cs M[j / sz] hcs (List.getElem?_eq_getElem (by omega))
   obtain rfl:=Option.some.inj hao
   obtain ⟨u',hu'⟩:∃ u',cs[j % sz]?=some u':=⟨_,List.getElem?_eq_getElem (by omega)⟩
   have hf:=get_flatten hcsz hcs hu'
   rw [show j / sz * sz+j % sz=j by rw [Nat.mul_comm];exact hdm] at hf
   rw [hf] at hj
   obtain rfl:=Option.some.inj hj
   rw [Addr.add_lit,show o'+j=o'+j / sz * sz+j % sz by rw [Nat.mul_comm (j / sz)];omega]
   exact h5 _ _ hu'
  have k2:∀ u ∈ ccs.flatten,u.oneCell'=true:=by
   intro u hu
   obtain ⟨cs,hcs,hu⟩:=List.mem_flatten.1 hu
   obtain ⟨i',hi'⟩:=List.getElem?_of_mem hcs
   have hl:i' < M.length:=by rw [← hcl];exact (List.getElem?_eq_some_iff.1 hi').1
   obtain ⟨_,_,_,_,_,h6⟩:=hcc i' cs M[i'] hi' (List.getElem?_eq_getElem hl)
   exact h1c _ _ _ h6 u hu
  obtain ⟨v',w',hr,hown',hg,_,hat⟩:=run_append_own_at (P:=P) w base t ty e i z sz bytes hel.under hi hz hsize hby hel.cells hel.pos v L.length css.flatten hrow ad M.length cap ccs.flatten (by rw [len_flatten hcsz,hcl]) k1 k2 h63 hbytes hbase
  exact ⟨v',w',hr,⟨css ++ ccs,by simpa using hown',by simp [h2,hcl],hfin w' hg⟩,hg,hbel w' hg,hat⟩
theorem step_app {P:Program} {ops:Array Oper} {o:Oper} {a:Act} {w:World} {K:Act→World→Prop} {Q:Exit→Act→World→Prop} {E:Prop}
  (hg:o.guard=none) (s x:Operand) (t:TypeId) (hop:o.op=Op.call { callee:=Callee.builtin Builtin.append,args:=#[s,x],argTypes:=#[t,t] })
  {α:Type} (base e sz bytes:Nat) (z:Value) (hel:El P t e sz bytes z) (R:World→List Value→α→Prop) (v:Value) (L M:List α) (hs:a.eval s=v) (hown:OwnS base e sz R w v L)
  (F:Nat→Prop) (xv:Value) (hx:a.eval x=xv) (hsrc:RdS sz R F w xv M) (h1c:∀ w cs x,R w cs x→∀ u ∈ cs,u.oneCell'=true)
  (h63:L.length+M.length≤maxLen) (hbytes:(L.length+M.length) * bytes≤140737488355328) (hbase:base≤w.heap.size)
  (hRk:∀ w',w.grownBy w' v.ownBlock→∀ cs x,x ∈ L ++ M→R w cs x→R w' cs x)
  (hK:∀ v' w',OwnS base e sz R w' v' (L ++ M)→w.grownBy w' v.ownBlock→Below base w w'→K (a.put o.dst v') w') :
  if Region.wanted o (yielded ops a.tmps)=true then Oper.wp P o a w K Q else E:=by
 have hw:Region.wanted o (yielded ops a.tmps)=true:=by simp [Region.wanted,hg]
 rw [if_pos hw]
 obtain ⟨v',w',hrun,h1,h2,h3,_⟩:=run_app (P:=P) (w:=w) t o.type base e sz bytes z hel R v L M hown F xv hsrc h1c h63 hbytes hbase hRk
 unfold Oper.wp
 simp [execOp,hop,resolve,invoke,builtin,hs,hx,hrun,Result.andThen]
 exact hK _ _ h1 h2 h3
end Go.Mh
namespace Go.Mh
open Go.RowKit
theorem RdS.tail {α:Type} {sz:Nat} {R:World→List Value→α→Prop} {F:Nat→Prop} {w:World} {b o n cap:Nat} {x:α} {L:List α} (h:RdS sz R F w (.slice (some ⟨b,o,none⟩) n cap) (x :: L)) :
  RdS sz R F w (.slice (some ⟨b,o+sz,none⟩) L.length (cap - 1)) L:=by
 obtain ⟨a,c,e,h1,h2,_,h4⟩:=h
 cases e
 simp at h1
 refine ⟨_,_,rfl,by omega,by omega,fun h=>by simp at h,fun i y hy=>?_⟩
 obtain ⟨b',o',cs,e,h5,h6,h7,h8⟩:=h4 (i+1) y (by simpa using hy)
 cases e
 refine ⟨_,_,cs,rfl,h5,h6, ?_,h8⟩
 rw [show o+sz+i * sz=o+(i+1) * sz by rw [Nat.succ_mul];omega]
 exact h7
theorem RdS.el {α:Type} {sz:Nat} {R:World→List Value→α→Prop} {F:Nat→Prop} {w:World} {a:Option Addr} {n cap:Nat} {L:List α} (h:RdS sz R F w (.slice a n cap) L) (i:Nat) (x:α) (hx:L[i]?=some x):∃ b o cs,a=some ⟨b,o,none⟩∧F b∧cs.length=sz∧At w b (o+i * sz) cs∧R w cs x:=by
 obtain ⟨a',cap',e,_,_,_,hel⟩:=h
 cases e
 exact hel i x hx
theorem RdS.nil0 {α:Type} {sz:Nat} {R:World→List Value→α→Prop} {F:Nat→Prop} {w:World} {b o:Nat}:RdS sz R F w (.slice (some ⟨b,o,none⟩) 0 0) ([]:List α):=
 ⟨_,_,rfl,Nat.le_refl _,by simp [maxLen],fun h=>by simp at h,fun i x h=>by simp at h⟩
def St (F:Nat→Prop) (w0 w:World):Prop:=∀ k,F k→w.heap[k]?=w0.heap[k]?
structure Stays (g:Nat) (w w':World):Prop where
 same:∀ k,k < w.heap.size→k≠g→w'.heap[k]?=w.heap[k]?
 bel:Below g w w'
theorem Stays.trans {g:Nat} {a b c:World} (h:Stays g a b) (k:Stays g b c):Stays g a c:=
 ⟨fun i hi hn=>(k.same i (Nat.lt_of_lt_of_le hi h.bel.size) hn).trans (h.same i hi hn),h.bel.trans k.bel⟩
theorem Stays.of {g:Nat} {a b:World} (h:Below a.heap.size a b) (hg:g≤a.heap.size):Stays g a b:=⟨fun k hk _=>h.block k hk,h.mono hg⟩
theorem Stays.set {g i:Nat} {w:World} {u:Value}:Stays g w (w.setCell ⟨g,i,none⟩ u):=⟨fun _ _ hk=>heap_setCell_other _ _ _ _ hk,(Below.refl g w).setCell (p:=⟨g,i,none⟩) (Nat.le_refl g) u⟩
def Rdr (e:TypeId) (F:Nat→Prop) (w0 w:World) (g:Nat) (p:Pt) (o:List Pt):Prop:=
 ∃ ov sv,w.heap[g]?=some (.cells #[ov,.int .i64 p.k,.int .i64 p.n,sv,.int .i64 p.set,.int .i64 p.clr,.bool p.to,str p.l] e (0,0))∧ROp F w0 ov o∧RItems F w0 sv p.its
theorem Rdr.keep {e:TypeId} {F:Nat→Prop} {w0 w w':World} {g:Nat} {p:Pt} {o:List Pt} (h:Rdr e F w0 w g p o) (hk:w'.heap[g]?=w.heap[g]?):Rdr e F w0 w' g p o:=by
 obtain ⟨ov,sv,h1,h2⟩:=h
 exact ⟨ov,sv,hk.trans h1,h2⟩
theorem Rdr.lt {e:TypeId} {F:Nat→Prop} {w0 w:World} {g:Nat} {p:Pt} {o:List Pt} (h:Rdr e F w0 w g p o):g < w.heap.size:=by obtain ⟨ov,sv,h1,_⟩:=h;exact lt_of_heap h1
def P8 (w:World) (g:Nat) (v0 v1 v2 v3 v4 v5 v6 v7:Value):Prop:=
 w.cell? ⟨g,0,none⟩=some v0∧w.cell? ⟨g,1,none⟩=some v1∧w.cell? ⟨g,2,none⟩=some v2∧w.cell? ⟨g,3,none⟩=some v3∧w.cell? ⟨g,4,none⟩=some v4∧w.cell? ⟨g,5,none⟩=some v5∧w.cell? ⟨g,6,none⟩=some v6∧w.cell? ⟨g,7,none⟩=some v7
theorem P8.of {w:World} {g T:Nat} {fr:Nat × Nat} {v0 v1 v2 v3 v4 v5 v6 v7:Value} (h:w.heap[g]?=some (.cells #[v0,v1,v2,v3,v4,v5,v6,v7] T fr)):P8 w g v0 v1 v2 v3 v4 v5 v6 v7:=by
 refine ⟨?_, ?_, ?_, ?_, ?_, ?_, ?_, ?_⟩ <;> (unfold World.cell?;rw [h];rfl)
theorem Stays.drew {g:Nat} {w w':World} (h:Stays g w w'):Stays g w w'.drew:=⟨h.same,h.bel.drew⟩
theorem Rdr.drew {e:TypeId} {F:Nat→Prop} {w0 w:World} {g:Nat} {p:Pt} {o:List Pt} (h:Rdr e F w0 w g p o):Rdr e F w0 w.drew g p o:=h
theorem set8 {w:World} {g e:Nat} {u0 u1 u2 u3 u4 u5 u6 u7:Value} (h:w.heap[g]?=some (.cells #[u0,u1,u2,u3,u4,u5,u6,u7] e (0,0))) (v0 v1 v2 v3 v4 v5 v6 v7:Value) :
  ((((((((w.setCell ⟨g,1,none⟩ v1).setCell ⟨g,2,none⟩ v2).setCell ⟨g,3,none⟩ v3).setCell ⟨g,4,none⟩ v4).setCell ⟨g,5,none⟩ v5).setCell ⟨g,6,none⟩ v6).setCell ⟨g,7,none⟩ v7).setCell ⟨g,0,none⟩ v0).heap[g]?=some (.cells #[v0,v1,v2,v3,v4,v5,v6,v7] e (0,0)) ∧
  Stays g w ((((((((w.setCell ⟨g,1,none⟩ v1).setCell ⟨g,2,none⟩ v2).setCell ⟨g,3,none⟩ v3).setCell ⟨g,4,none⟩ v4).setCell ⟨g,5,none⟩ v5).setCell ⟨g,6,none⟩ v6).setCell ⟨g,7,none⟩ v7).setCell ⟨g,0,none⟩ v0):=by
 constructor
 ·have h1:(w.setCell ⟨g,1,none⟩ v1).heap[g]?=some (.cells #[u0,v1,u2,u3,u4,u5,u6,u7] e (0,0)):=by rw [heap_setCell_same _ g 1 _ e v1 h];rfl
  have h2:((w.setCell ⟨g,1,none⟩ v1).setCell ⟨g,2,none⟩ v2).heap[g]?=some (.cells #[u0,v1,v2,u3,u4,u5,u6,u7] e (0,0)):=by rw [heap_setCell_same _ g 2 _ e v2 h1];rfl
  have h3:(((w.setCell ⟨g,1,none⟩ v1).setCell ⟨g,2,none⟩ v2).setCell ⟨g,3,none⟩ v3).heap[g]?=some (.cells #[u0,v1,v2,v3,u4,u5,u6,u7] e (0,0)):=by rw [heap_setCell_same _ g 3 _ e v3 h2];rfl
  have h4:((((w.setCell ⟨g,1,none⟩ v1).setCell ⟨g,2,none⟩ v2).setCell ⟨g,3,none⟩ v3).setCell ⟨g,4,none⟩ v4).heap[g]?=some (.cells #[u0,v1,v2,v3,v4,u5,u6,u7] e (0,0)):=by rw [heap_setCell_same _ g 4 _ e v4 h3];rfl
  have h5:(((((w.setCell ⟨g,1,none⟩ v1).setCell ⟨g,2,none⟩ v2).setCell ⟨g,3,none⟩ v3).setCell ⟨g,4,none⟩ v4).setCell ⟨g,5,none⟩ v5).heap[g]?=some (.cells #[u0,v1,v2,v3,v4,v5,u6,u7] e (0,0)):=by rw [heap_setCell_same _ g 5 _ e v5 h4];rfl
  have h6:((((((w.setCell ⟨g,1,none⟩ v1).setCell ⟨g,2,none⟩ v2).setCell ⟨g,3,none⟩ v3).setCell ⟨g,4,none⟩ v4).setCell ⟨g,5,none⟩ v5).setCell ⟨g,6,none⟩ v6).heap[g]?=some (.cells #[u0,v1,v2,v3,v4,v5,v6,u7] e (0,0)):=by rw [heap_setCell_same _ g 6 _ e v6 h5];rfl
  have h7:(((((((w.setCell ⟨g,1,none⟩ v1).setCell ⟨g,2,none⟩ v2).setCell ⟨g,3,none⟩ v3).setCell ⟨g,4,none⟩ v4).setCell ⟨g,5,none⟩ v5).setCell ⟨g,6,none⟩ v6).setCell ⟨g,7,none⟩ v7).heap[g]?=some (.cells #[u0,v1,v2,v3,v4,v5,v6,v7] e (0,0)):=by rw [heap_setCell_same _ g 7 _ e v7 h6];rfl
  show ((((((((w.setCell ⟨g,1,none⟩ v1).setCell ⟨g,2,none⟩ v2).setCell ⟨g,3,none⟩ v3).setCell ⟨g,4,none⟩ v4).setCell ⟨g,5,none⟩ v5).setCell ⟨g,6,none⟩ v6).setCell ⟨g,7,none⟩ v7).setCell ⟨g,0,none⟩ v0).heap[g]?=_
  rw [heap_setCell_same _ g 0 _ e v0 h7];rfl
 ·exact ((((((((Stays.set.trans Stays.set).trans Stays.set).trans Stays.set).trans Stays.set).trans Stays.set).trans Stays.set).trans Stays.set))
theorem set7 {w:World} {g e:Nat} {u0 u1 u2 u3 u4 u5 u6 u7:Value} (h:w.heap[g]?=some (.cells #[u0,u1,u2,u3,u4,u5,u6,u7] e (0,0))) (v1 v2 v3 v4 v5 v6 v7:Value) :
  (((((((w.setCell ⟨g,1,none⟩ v1).setCell ⟨g,2,none⟩ v2).setCell ⟨g,3,none⟩ v3).setCell ⟨g,4,none⟩ v4).setCell ⟨g,5,none⟩ v5).setCell ⟨g,6,none⟩ v6).setCell ⟨g,7,none⟩ v7).heap[g]?=some (.cells #[u0,v1,v2,v3,v4,v5,v6,v7] e (0,0)) ∧
  Stays g w (((((((w.setCell ⟨g,1,none⟩ v1).setCell ⟨g,2,none⟩ v2).setCell ⟨g,3,none⟩ v3).setCell ⟨g,4,none⟩ v4).setCell ⟨g,5,none⟩ v5).setCell ⟨g,6,none⟩ v6).setCell ⟨g,7,none⟩ v7):=by
 constructor
 ·have h1:(w.setCell ⟨g,1,none⟩ v1).heap[g]?=some (.cells #[u0,v1,u2,u3,u4,u5,u6,u7] e (0,0)):=by rw [heap_setCell_same _ g 1 _ e v1 h];rfl
  have h2:((w.setCell ⟨g,1,none⟩ v1).setCell ⟨g,2,none⟩ v2).heap[g]?=some (.cells #[u0,v1,v2,u3,u4,u5,u6,u7] e (0,0)):=by rw [heap_setCell_same _ g 2 _ e v2 h1];rfl
  have h3:(((w.setCell ⟨g,1,none⟩ v1).setCell ⟨g,2,none⟩ v2).setCell ⟨g,3,none⟩ v3).heap[g]?=some (.cells #[u0,v1,v2,v3,u4,u5,u6,u7] e (0,0)):=by rw [heap_setCell_same _ g 3 _ e v3 h2];rfl
  have h4:((((w.setCell ⟨g,1,none⟩ v1).setCell ⟨g,2,none⟩ v2).setCell ⟨g,3,none⟩ v3).setCell ⟨g,4,none⟩ v4).heap[g]?=some (.cells #[u0,v1,v2,v3,v4,u5,u6,u7] e (0,0)):=by rw [heap_setCell_same _ g 4 _ e v4 h3];rfl
  have h5:(((((w.setCell ⟨g,1,none⟩ v1).setCell ⟨g,2,none⟩ v2).setCell ⟨g,3,none⟩ v3).setCell ⟨g,4,none⟩ v4).setCell ⟨g,5,none⟩ v5).heap[g]?=some (.cells #[u0,v1,v2,v3,v4,v5,u6,u7] e (0,0)):=by rw [heap_setCell_same _ g 5 _ e v5 h4];rfl
  have h6:((((((w.setCell ⟨g,1,none⟩ v1).setCell ⟨g,2,none⟩ v2).setCell ⟨g,3,none⟩ v3).setCell ⟨g,4,none⟩ v4).setCell ⟨g,5,none⟩ v5).setCell ⟨g,6,none⟩ v6).heap[g]?=some (.cells #[u0,v1,v2,v3,v4,v5,v6,u7] e (0,0)):=by rw [heap_setCell_same _ g 6 _ e v6 h5];rfl
  show (((((((w.setCell ⟨g,1,none⟩ v1).setCell ⟨g,2,none⟩ v2).setCell ⟨g,3,none⟩ v3).setCell ⟨g,4,none⟩ v4).setCell ⟨g,5,none⟩ v5).setCell ⟨g,6,none⟩ v6).setCell ⟨g,7,none⟩ v7).heap[g]?=_
  rw [heap_setCell_same _ g 7 _ e v7 h6];rfl
 ·exact ((((((Stays.set.trans Stays.set).trans Stays.set).trans Stays.set).trans Stays.set).trans Stays.set).trans Stays.set)
theorem set_two {w:World} {g e:Nat} {u0 u1 u2 u3 u4 u5 u6 u7:Value} (h:w.heap[g]?=some (.cells #[u0,u1,u2,u3,u4,u5,u6,u7] e (0,0))) (v2:Value):(w.setCell ⟨g,2,none⟩ v2).heap[g]?=some (.cells #[u0,u1,v2,u3,u4,u5,u6,u7] e (0,0)):=by
 rw [heap_setCell_same _ g 2 _ e v2 h];rfl
theorem set_three {w:World} {g e:Nat} {u0 u1 u2 u3 u4 u5 u6 u7:Value} (h:w.heap[g]?=some (.cells #[u0,u1,u2,u3,u4,u5,u6,u7] e (0,0))) (v3:Value):(w.setCell ⟨g,3,none⟩ v3).heap[g]?=some (.cells #[u0,u1,u2,v3,u4,u5,u6,u7] e (0,0)):=by
 rw [heap_setCell_same _ g 3 _ e v3 h];rfl
abbrev RX (F:Nat→Prop) (w0:World):World→List Value→Pt→Prop:=fun _ cs p=>RPt F w0 cs p
theorem RX_one (F:Nat→Prop) (w0:World):∀ (w:World) (cs:List Value) (x:Pt),RX F w0 w cs x→∀ u ∈ cs,u.oneCell'=true:=fun _ cs x h=>RPt_one F w0 cs x h
theorem RX_src {F:Nat→Prop} {w0 w:World} {g e:Nat} {y:Pt} {sv:Value} (h:w.heap[g]?=some (.cells #[.int .i64 y.k,.int .i64 y.n,sv,.int .i64 y.set,.int .i64 y.clr,.bool y.to,str y.l] e (0,0))) (hI:RItems F w0 sv y.its) :
  RdS 7 (RX F w0) (fun _=>True) w (.slice (some ⟨g,0,none⟩) 1 1) [y]:=by
 refine ⟨_,_,rfl,Nat.le_refl _,by simp [maxLen],fun h=>by simp at h,fun i x hx=>?_⟩
 match i,hx with
 | 0,hx =>
  simp at hx
  subst hx
  refine ⟨g,0,[.int .i64 y.k,.int .i64 y.n,sv,.int .i64 y.set,.int .i64 y.clr,.bool y.to,str y.l],rfl,trivial,rfl,fun j v hj=>?_,sv,rfl,hI⟩
  simp only [Nat.zero_mul,Nat.zero_add]
  unfold World.cell?
  rw [h]
  simpa using hj
 | i+1,hx=>simp at hx
theorem RX_op {F:Nat→Prop} {w0 w:World} {e B:Nat} {v:Value} {L:List Pt} (h:OwnS B e 7 (RX F w0) w v L) (hs:St F w0 w):ROp (fun _=>True) w v L:=
 RdS.to h.rd (by decide) (fun _ _ _=>⟨trivial,rfl⟩) fun _ _ _ r=>RPt.to r fun k hF _=>⟨trivial,hs k hF⟩
structure Two (B e:Nat) (F:Nat→Prop) (w0 w:World) (xv yv:Value) (X Y:List Pt):Prop where
 x:OwnS B e 7 (RX F w0) w xv X
 y:OwnS B e 7 (RX F w0) w yv Y
 ne:∀ k,xv.ownBlock=some k→yv.ownBlock≠some k
 hB:B≤w.heap.size
theorem OwnS.own_lt {α:Type} {base e sz:Nat} {R:World→List Value→α→Prop} {w:World} {v:Value} {L:List α} (h:OwnS base e sz R w v L) {k:Nat} (hk:v.ownBlock=some k):base≤k∧k < w.heap.size:=by
 obtain ⟨css,hrow,_⟩:=h
 exact hrow.lt k hk
theorem Two.symm {B e:Nat} {F:Nat→Prop} {w0 w:World} {xv yv:Value} {X Y:List Pt} (h:Two B e F w0 w xv yv X Y):Two B e F w0 w yv xv Y X:=⟨h.y,h.x,fun k h1 h2=>h.ne k h2 h1,h.hB⟩
theorem Two.start {B e:Nat} {F:Nat→Prop} {w0 w:World} (hB:B≤w.heap.size):Two B e F w0 w (.slice none 0 0) (.slice none 0 0) [] []:=⟨OwnS.nil,OwnS.nil,fun k h=>by simp [Value.ownBlock] at h,hB⟩
theorem Two.keep {B e:Nat} {F:Nat→Prop} {w0 w w':World} {xv yv:Value} {X Y:List Pt} (h:Two B e F w0 w xv yv X Y) (hs:w.heap.size≤w'.heap.size) (hk:∀ k,B≤k→k < w.heap.size→w'.heap[k]?=w.heap[k]?):Two B e F w0 w' xv yv X Y:=
 ⟨h.x.to (fun k hk' hl=>hk k (h.x.own_lt hk').1 hl) fun _ _ _ r=>r,h.y.to (fun k hk' hl=>hk k (h.y.own_lt hk').1 hl) fun _ _ _ r=>r,h.ne,Nat.le_trans h.hB hs⟩
theorem Two.below {B e:Nat} {F:Nat→Prop} {w0 w w':World} {xv yv:Value} {X Y:List Pt} (h:Two B e F w0 w xv yv X Y) (hb:Below w.heap.size w w'):Two B e F w0 w' xv yv X Y:=h.keep hb.size fun k _ hl=>hb.block k hl
theorem Two.stays {B e g:Nat} {F:Nat→Prop} {w0 w w':World} {xv yv:Value} {X Y:List Pt} (h:Two B e F w0 w xv yv X Y) (hb:Stays g w w') (hg:g < B):Two B e F w0 w' xv yv X Y:=h.keep hb.bel.size fun k hk hl=>hb.same k hl (by omega)
theorem Two.growX {B e:Nat} {F:Nat→Prop} {w0 w w':World} {xv yv v':Value} {X Y X':List Pt} (h:Two B e F w0 w xv yv X Y) (ho:OwnS B e 7 (RX F w0) w' v' X') (hg:w.grownBy w' xv.ownBlock) (hat:v'.ownBlock=xv.ownBlock∨v'.ownBlock=some w.heap.size):Two B e F w0 w' v' yv X' Y:=by
 refine ⟨ho,h.y.to (fun k hk hl=>hg.block k hl fun e=>h.ne k e.symm hk) fun _ _ _ r=>r,fun k hk hy=>?_,Nat.le_trans h.hB hg.size⟩
 rcases hat with hat | hat
 ·exact h.ne k (hat.symm.trans hk) hy
 ·have:=(h.y.own_lt hy).2
  rw [hk] at hat
  cases hat
  omega
section
variable {P:Program} {ops:Array Oper} {o:Oper} {a:Act} {w:World} {Q:Exit→Act→World→Prop}
theorem step_appX {K:Act→World→Prop} {E:Prop} (hg:o.guard=none) (s x:Operand) (t:TypeId) (hop:o.op=Op.call { callee:=Callee.builtin Builtin.append,args:=#[s,x],argTypes:=#[t,t] })
  (B e bytes:Nat) (z:Value) (hel:El P t e 7 bytes z) {F:Nat→Prop} {w0:World} {xv yv:Value} {X Y:List Pt} (T:Two B e F w0 w xv yv X Y) (hs:a.eval s=xv)
  (g:Nat) (y:Pt) (sv:Value) (hx:a.eval x=.slice (some ⟨g,0,none⟩) 1 1) (hblk:w.heap[g]?=some (.cells #[.int .i64 y.k,.int .i64 y.n,sv,.int .i64 y.set,.int .i64 y.clr,.bool y.to,str y.l] e (0,0))) (hI:RItems F w0 sv y.its)
  (hl:X.length≤1000) (hby:bytes≤1000)
  (hK:∀ a' c' w',Two B e F w0 w' (.slice a' (X.length+1) c') yv (X ++ [y]) Y→Below B w w'→(∀ k ob,some k≠xv.ownBlock→w.heap[k]?=some ob→w'.heap[k]?=some ob)→K (a.put o.dst (.slice a' (X.length+1) c')) w') :
  if Region.wanted o (yielded ops a.tmps)=true then Oper.wp P o a w K Q else E:=by
 have hw:Region.wanted o (yielded ops a.tmps)=true:=by simp [Region.wanted,hg]
 rw [if_pos hw]
 obtain ⟨v',w',hrun,h1,h2,h3,h4⟩:=run_app (P:=P) (w:=w) t o.type B e 7 bytes z hel (RX F w0) xv X [y] T.x (fun _=>True) _ (RX_src hblk hI) (RX_one F w0) (by simp [maxLen];omega) (by simp;have:=Nat.mul_le_mul (show X.length+1≤1001 by omega) hby;omega) T.hB (fun _ _ _ _ _ r=>r)
 obtain ⟨a',c',rfl,_⟩:=h1.rd
 unfold Oper.wp
 simp [execOp,hop,resolve,invoke,builtin,hs,hx,hrun,Result.andThen]
 have hfin:=hK a' c' w' (by simpa using T.growX h1 h2 h4) h3 (fun k ob hne hk=>(h2.block k (lt_of_heap hk) hne).trans hk)
 exact hfin
theorem wpList_appX {rest:List Oper} (hg:o.guard=none) (s x:Operand) (t:TypeId) (hop:o.op=Op.call { callee:=Callee.builtin Builtin.append,args:=#[s,x],argTypes:=#[t,t] })
  (B e bytes:Nat) (z:Value) (hel:El P t e 7 bytes z) {F:Nat→Prop} {w0:World} {xv yv:Value} {X Y:List Pt} (T:Two B e F w0 w xv yv X Y) (hs:a.eval s=xv)
  (g:Nat) (y:Pt) (sv:Value) (hx:a.eval x=.slice (some ⟨g,0,none⟩) 1 1) (hblk:w.heap[g]?=some (.cells #[.int .i64 y.k,.int .i64 y.n,sv,.int .i64 y.set,.int .i64 y.clr,.bool y.to,str y.l] e (0,0))) (hI:RItems F w0 sv y.its)
  (hl:X.length≤1000) (hby:bytes≤1000)
  (h:∀ a' c' w',Two B e F w0 w' (.slice a' (X.length+1) c') yv (X ++ [y]) Y→Below B w w'→(∀ k ob,some k≠xv.ownBlock→w.heap[k]?=some ob→w'.heap[k]?=some ob)→wpList P ops Q rest (a.put o.dst (.slice a' (X.length+1) c')) w') :
  wpList P ops Q (o :: rest) a w:=by
 refine wpList_plain hg fun K hK=>?_
 obtain ⟨v',w',hrun,h1,h2,h3,h4⟩:=run_app (P:=P) (w:=w) t o.type B e 7 bytes z hel (RX F w0) xv X [y] T.x (fun _=>True) _ (RX_src hblk hI) (RX_one F w0) (by simp [maxLen];omega) (by simp;have:=Nat.mul_le_mul (show X.length+1≤1001 by omega) hby;omega) T.hB (fun _ _ _ _ _ r=>r)
 obtain ⟨a',c',rfl,_⟩:=h1.rd
 unfold Oper.wp
 simp [execOp,hop,resolve,invoke,builtin,hs,hx,hrun,Result.andThen]
 have hfin:=h a' c' w' (by simpa using T.growX h1 h2 h4) h3 (fun k ob hne hk=>(h2.block k (lt_of_heap hk) hne).trans hk)
 exact hK _ _ (by simpa using hfin)
end
def cellLen:Option Value→Nat
 | some (.slice _ n _)=>n
 | _=>0
def cellInt:Option Value→Nat
 | some (.int _ n)=>n.toNat
 | _=>0
def wgtW (w:World) (g:Nat):Nat:=1000 * cellLen (w.cell? ⟨g,0,none⟩)+cellInt (w.cell? ⟨g,2,none⟩)+cellLen (w.cell? ⟨g,3,none⟩)
theorem Rdr.wgt {e:TypeId} {F:Nat→Prop} {w0 w:World} {g:Nat} {p:Pt} {o:List Pt} (h:Rdr e F w0 w g p o):wgtW w g=wgtR p o:=by
 obtain ⟨ov,sv,hb,h1,h2⟩:=h
 obtain ⟨a1,c1,rfl,_⟩:=h1
 obtain ⟨a2,c2,rfl,_⟩:=h2
 obtain ⟨q0,_,q2,q3,_⟩:=P8.of hb
 simp only [wgtW,q0,q2,q3,cellLen,cellInt,wgtR]
theorem Rdr.len {e:TypeId} {F:Nat→Prop} {w0 w:World} {g:Nat} {p:Pt} {o:List Pt} (h:Rdr e F w0 w g p o):cellLen (w.cell? ⟨g,0,none⟩)=o.length:=by
 obtain ⟨ov,sv,hb,h1,h2⟩:=h
 obtain ⟨a1,c1,rfl,_⟩:=h1
 obtain ⟨q0,_⟩:=P8.of hb
 simp only [q0,cellLen]
end Go.Mh
namespace Go.Mh
open Go.RowKit
theorem heap_at {w:World} {o:Obj} {g:Nat} (h:g=w.heap.size):(w.alloc o).heap[g]?=some o:=by subst h;exact heap_new w o
theorem heap_at2 {w:World} {o o':Obj} {g:Nat} (h:g=w.heap.size):((w.alloc o).alloc o').heap[g]?=some o:=by
 subst h;exact ((bal (brf _) o').block _ (by simp)).trans (heap_new w o)
theorem ch0 (w:World):Below w.heap.size w w.drew:=(brf w).drew
theorem ch1 (w:World) (o:Obj):Below w.heap.size w (w.drew.alloc o):=bal (brf w).drew o
theorem ch2 (w:World) (o o':Obj):Below w.heap.size w ((w.drew.alloc o).alloc o'):=bal (bal (brf w).drew o) o'
structure Fix (w w0:World) (F:Nat→Prop) (g1 g2:Nat):Prop where
 lo:w.heap.size≤g1
 lt:g1 < g2
 hi:g2 < w0.heap.size
 F1:∀ k,F k→k < w0.heap.size∧k≠g1∧k≠g2
structure Lp (e er:TypeId) (w w0:World) (F:Nat→Prop) (g1 g2:Nat) (wr:World) (xv yv:Value) (X Y:List Pt) (p:Pt) (o:List Pt) (q:Pt) (u:List Pt):Prop where
 two:Two w0.heap.size e F w0 wr xv yv X Y
 r1:Rdr er F w0 wr g1 p o
 r2:Rdr er F w0 wr g2 q u
 st:St F w0 wr
 bel:Below w.heap.size w wr
section
variable {e er:TypeId} {w w0:World} {F:Nat→Prop} {g1 g2:Nat} {wr w':World} {xv yv xv' yv':Value} {X Y X' Y':List Pt} {p p':Pt} {o o':List Pt} {q q':Pt} {u u':List Pt}
theorem Lp.at1 (h:Lp e er w w0 F g1 g2 wr xv yv X Y p o q u) (f:Fix w w0 F g1 g2) (hs:Stays g1 wr w') (hr:Rdr er F w0 w' g1 p' o'):Lp e er w w0 F g1 g2 w' xv yv X Y p' o' q u:=by
 have:=f.lt;have:=f.hi;have:=f.lo
 have hz:=h.two.hB
 exact ⟨h.two.stays hs (by omega),hr,h.r2.keep (hs.same g2 (by omega) (by omega)),fun k hk=>(hs.same k (by have:=(f.F1 k hk).1;omega) (f.F1 k hk).2.1).trans (h.st k hk),h.bel.trans (hs.bel.mono f.lo)⟩
theorem Lp.at2 (h:Lp e er w w0 F g1 g2 wr xv yv X Y p o q u) (f:Fix w w0 F g1 g2) (hs:Stays g2 wr w') (hr:Rdr er F w0 w' g2 q' u'):Lp e er w w0 F g1 g2 w' xv yv X Y p o q' u':=by
 have:=f.lt;have:=f.hi;have:=f.lo
 have hz:=h.two.hB
 exact ⟨h.two.stays hs (by omega),h.r1.keep (hs.same g1 (by omega) (by omega)),hr,fun k hk=>(hs.same k (by have:=(f.F1 k hk).1;omega) (f.F1 k hk).2.2).trans (h.st k hk),h.bel.trans (hs.bel.mono (by omega))⟩
theorem Lp.below (h:Lp e er w w0 F g1 g2 wr xv yv X Y p o q u) (f:Fix w w0 F g1 g2) (hb:Below wr.heap.size wr w'):Lp e er w w0 F g1 g2 w' xv yv X Y p o q u:=by
 have:=f.lt;have:=f.hi;have:=f.lo
 have hz:=h.two.hB
 exact ⟨h.two.below hb,h.r1.keep (hb.block g1 (by omega)),h.r2.keep (hb.block g2 (by omega)),fun k hk=>(hb.block k (by have:=(f.F1 k hk).1;omega)).trans (h.st k hk),h.bel.trans (hb.mono (by omega))⟩
theorem Lp.grown (h:Lp e er w w0 F g1 g2 wr xv yv X Y p o q u) (f:Fix w w0 F g1 g2) (T:Two w0.heap.size e F w0 w' xv' yv' X' Y') (hb:Below w0.heap.size wr w'):Lp e er w w0 F g1 g2 w' xv' yv' X' Y' p o q u:=by
 have:=f.lt;have:=f.hi;have:=f.lo
 exact ⟨T,h.r1.keep (hb.block g1 (by omega)),h.r2.keep (hb.block g2 (by omega)),fun k hk=>(hb.block k (f.F1 k hk).1).trans (h.st k hk),h.bel.trans (hb.mono (by omega))⟩
end
theorem Two.own_ge {B e:Nat} {F:Nat→Prop} {w0 w:World} {xv yv:Value} {X Y:List Pt} (h:Two B e F w0 w xv yv X Y) {k:Nat} (hk:w.heap.size≤k):some k≠xv.ownBlock:=fun he=>by
 have:=(h.x.own_lt he.symm).2
 omega
theorem wgt_pt0 {p:Pt} (h:TP p) (o:List Pt):wgtR pt0 o < wgtR p o:=by
 rcases h with ⟨c,n,hn,_,rfl⟩ | ⟨l,hl,_,rfl⟩ | ⟨n,hn,rfl⟩
 ·simp [wgtR,pt0,keepP];omega
 ·have:=List.length_pos_iff.2 hl;simp [wgtR,pt0,putP];omega
 ·simp [wgtR,pt0,cutP];omega
theorem wgt_rest {p:Pt} {n:Int} (h0:0 < n) (h1:n≤p.n) (o:List Pt):wgtR (restN p n) o < wgtR p o:=by
 simp only [wgtR,restN];omega
theorem wgt_drop {p:Pt} {n:Nat} (h0:0 < n) (h1:n≤p.its.length) (o:List Pt):wgtR (dropI p n) o < wgtR p o:=by
 simp only [wgtR,dropI,List.length_drop];omega
theorem kp7 {g B:Nat} {v1 v2 v3 v4 v5 v6 v7:Value} {w0 wc w':World} (h:wc.cell? ⟨g,1,none⟩=some v1∧wc.cell? ⟨g,2,none⟩=some v2∧wc.cell? ⟨g,3,none⟩=some v3∧wc.cell? ⟨g,4,none⟩=some v4∧wc.cell? ⟨g,5,none⟩=some v5∧wc.cell? ⟨g,6,none⟩=some v6∧wc.cell? ⟨g,7,none⟩=some v7∧g < B∧B≤wc.heap.size∧Below B w0 wc) (hb:Below B wc w') :
  w'.cell? ⟨g,1,none⟩=some v1∧w'.cell? ⟨g,2,none⟩=some v2∧w'.cell? ⟨g,3,none⟩=some v3∧w'.cell? ⟨g,4,none⟩=some v4∧w'.cell? ⟨g,5,none⟩=some v5∧w'.cell? ⟨g,6,none⟩=some v6∧w'.cell? ⟨g,7,none⟩=some v7∧g < B∧B≤w'.heap.size∧Below B w0 w':=by
 obtain ⟨h1,h2,h3,h4,h5,h6,h7,hg,hB,hw⟩:=h
 exact ⟨(hb.cell (p:=⟨g,1,none⟩) hg).trans h1,(hb.cell (p:=⟨g,2,none⟩) hg).trans h2,(hb.cell (p:=⟨g,3,none⟩) hg).trans h3,(hb.cell (p:=⟨g,4,none⟩) hg).trans h4,(hb.cell (p:=⟨g,5,none⟩) hg).trans h5,(hb.cell (p:=⟨g,6,none⟩) hg).trans h6,(hb.cell (p:=⟨g,7,none⟩) hg).trans h7,hg,Nat.le_trans hB hb.size,hw.trans hb⟩
theorem kp7a {g B:Nat} {v1 v2 v3 v4 v5 v6 v7:Value} {w0 wc:World} (h:wc.cell? ⟨g,1,none⟩=some v1∧wc.cell? ⟨g,2,none⟩=some v2∧wc.cell? ⟨g,3,none⟩=some v3∧wc.cell? ⟨g,4,none⟩=some v4∧wc.cell? ⟨g,5,none⟩=some v5∧wc.cell? ⟨g,6,none⟩=some v6∧wc.cell? ⟨g,7,none⟩=some v7∧g < B∧B≤wc.heap.size∧Below B w0 wc) (o:Obj) :
  (wc.alloc o).cell? ⟨g,1,none⟩=some v1∧(wc.alloc o).cell? ⟨g,2,none⟩=some v2∧(wc.alloc o).cell? ⟨g,3,none⟩=some v3∧(wc.alloc o).cell? ⟨g,4,none⟩=some v4∧(wc.alloc o).cell? ⟨g,5,none⟩=some v5∧(wc.alloc o).cell? ⟨g,6,none⟩=some v6∧(wc.alloc o).cell? ⟨g,7,none⟩=some v7∧g < B∧B≤(wc.alloc o).heap.size∧Below B w0 (wc.alloc o):=
 kp7 h ((Below.refl _ _).alloc h.2.2.2.2.2.2.2.2.1 o)
theorem kp7b {g B:Nat} {v1 v2 v3 v4 v5 v6 v7:Value} {w0 wc:World} (h:wc.cell? ⟨g,1,none⟩=some v1∧wc.cell? ⟨g,2,none⟩=some v2∧wc.cell? ⟨g,3,none⟩=some v3∧wc.cell? ⟨g,4,none⟩=some v4∧wc.cell? ⟨g,5,none⟩=some v5∧wc.cell? ⟨g,6,none⟩=some v6∧wc.cell? ⟨g,7,none⟩=some v7∧g < B∧B≤wc.heap.size∧Below B w0 wc):Below B w0 wc:=h.2.2.2.2.2.2.2.2.2
def S14 (gs gt:Nat) (sv tv:Value) (x y:Pt) (w:World):Prop:=P7 w gs (.int .i64 x.k) (.int .i64 x.n) sv (.int .i64 x.set) (.int .i64 x.clr) (.bool x.to) (str x.l)∧P7 w gt (.int .i64 y.k) (.int .i64 y.n) tv (.int .i64 y.set) (.int .i64 y.clr) (.bool y.to) (str y.l)
theorem S14.below {gs gt:Nat} {sv tv:Value} {x y:Pt} {w w':World} (h:S14 gs gt sv tv x y w) (hb:Below w.heap.size w w'):S14 gs gt sv tv x y w':=⟨h.1.below hb,h.2.below hb⟩
theorem P7.block {w w':World} {g:Nat} {v0 v1 v2 v3 v4 v5 v6:Value} (h:P7 w g v0 v1 v2 v3 v4 v5 v6) (hb:w'.heap[g]?=w.heap[g]?):P7 w' g v0 v1 v2 v3 v4 v5 v6:=by
 have e:∀ i,w'.cell? ⟨g,i,none⟩=w.cell? ⟨g,i,none⟩:=fun i=>World.cell?_of_block (w:=w) (a:=⟨g,i,none⟩) hb
 unfold P7
 simp only [e]
 exact h
theorem blk_of_cell {w w':World} {own:Option Nat} {g i:Nat} {v:Value} (h:w.cell? ⟨g,i,none⟩=some v) (hne:some g≠own) (hn:∀ k ob,some k≠own→w.heap[k]?=some ob→w'.heap[k]?=some ob):w'.heap[g]?=w.heap[g]?:=by
 have hl:=lt_of_cell h
 obtain ⟨ob,hob⟩:∃ ob,w.heap[g]?=some ob:=⟨_,Array.getElem?_eq_getElem hl⟩
 rw [hob]
 exact hn g ob hne hob
theorem S14.grown {gs gt:Nat} {sv tv:Value} {x y:Pt} {w w':World} {own:Option Nat} (h:S14 gs gt sv tv x y w) (h1:some gs≠own) (h2:some gt≠own) (hn:∀ k ob,some k≠own→w.heap[k]?=some ob→w'.heap[k]?=some ob):S14 gs gt sv tv x y w':=
 ⟨h.1.block (blk_of_cell h.1.1 h1 hn),h.2.block (blk_of_cell h.2.1 h2 hn)⟩
theorem kpU {gs gt B:Nat} {sv tv:Value} {x y:Pt} {w5 wc:World} (h:wc.cell? ⟨gs,0,none⟩=some (.int .i64 x.k)∧wc.cell? ⟨gs,1,none⟩=some (.int .i64 x.n)∧wc.cell? ⟨gs,2,none⟩=some (sv)∧wc.cell? ⟨gs,3,none⟩=some (.int .i64 x.set)∧wc.cell? ⟨gs,4,none⟩=some (.int .i64 x.clr)∧wc.cell? ⟨gs,5,none⟩=some (.bool x.to)∧wc.cell? ⟨gs,6,none⟩=some (str x.l)∧wc.cell? ⟨gt,0,none⟩=some (.int .i64 y.k)∧wc.cell? ⟨gt,1,none⟩=some (.int .i64 y.n)∧wc.cell? ⟨gt,2,none⟩=some (tv)∧wc.cell? ⟨gt,3,none⟩=some (.int .i64 y.set)∧wc.cell? ⟨gt,4,none⟩=some (.int .i64 y.clr)∧wc.cell? ⟨gt,5,none⟩=some (.bool y.to)∧wc.cell? ⟨gt,6,none⟩=some (str y.l)∧B≤wc.heap.size∧Below B w5 wc):S14 gs gt sv tv x y wc∧B≤wc.heap.size∧Below B w5 wc:=by
 obtain ⟨h0,h1,h2,h3,h4,h5,h6,k0,k1,k2,k3,k4,k5,k6,hB,hb⟩:=h
 exact ⟨⟨⟨h0,h1,h2,h3,h4,h5,h6⟩,k0,k1,k2,k3,k4,k5,k6⟩,hB,hb⟩
theorem kpM {gs gt B:Nat} {sv tv:Value} {x y:Pt} {w5 wc:World} (h:S14 gs gt sv tv x y wc) (hB:B≤wc.heap.size) (hb:Below B w5 wc):wc.cell? ⟨gs,0,none⟩=some (.int .i64 x.k)∧wc.cell? ⟨gs,1,none⟩=some (.int .i64 x.n)∧wc.cell? ⟨gs,2,none⟩=some (sv)∧wc.cell? ⟨gs,3,none⟩=some (.int .i64 x.set)∧wc.cell? ⟨gs,4,none⟩=some (.int .i64 x.clr)∧wc.cell? ⟨gs,5,none⟩=some (.bool x.to)∧wc.cell? ⟨gs,6,none⟩=some (str x.l)∧wc.cell? ⟨gt,0,none⟩=some (.int .i64 y.k)∧wc.cell? ⟨gt,1,none⟩=some (.int .i64 y.n)∧wc.cell? ⟨gt,2,none⟩=some (tv)∧wc.cell? ⟨gt,3,none⟩=some (.int .i64 y.set)∧wc.cell? ⟨gt,4,none⟩=some (.int .i64 y.clr)∧wc.cell? ⟨gt,5,none⟩=some (.bool y.to)∧wc.cell? ⟨gt,6,none⟩=some (str y.l)∧B≤wc.heap.size∧Below B w5 wc:=by
 obtain ⟨⟨h0,h1,h2,h3,h4,h5,h6⟩,k0,k1,k2,k3,k4,k5,k6⟩:=h
 exact ⟨h0,h1,h2,h3,h4,h5,h6,k0,k1,k2,k3,k4,k5,k6,hB,hb⟩
theorem kpB {gs gt B:Nat} {sv tv:Value} {x y:Pt} {w5 wc w':World} (h:wc.cell? ⟨gs,0,none⟩=some (.int .i64 x.k)∧wc.cell? ⟨gs,1,none⟩=some (.int .i64 x.n)∧wc.cell? ⟨gs,2,none⟩=some (sv)∧wc.cell? ⟨gs,3,none⟩=some (.int .i64 x.set)∧wc.cell? ⟨gs,4,none⟩=some (.int .i64 x.clr)∧wc.cell? ⟨gs,5,none⟩=some (.bool x.to)∧wc.cell? ⟨gs,6,none⟩=some (str x.l)∧wc.cell? ⟨gt,0,none⟩=some (.int .i64 y.k)∧wc.cell? ⟨gt,1,none⟩=some (.int .i64 y.n)∧wc.cell? ⟨gt,2,none⟩=some (tv)∧wc.cell? ⟨gt,3,none⟩=some (.int .i64 y.set)∧wc.cell? ⟨gt,4,none⟩=some (.int .i64 y.clr)∧wc.cell? ⟨gt,5,none⟩=some (.bool y.to)∧wc.cell? ⟨gt,6,none⟩=some (str y.l)∧B≤wc.heap.size∧Below B w5 wc) (hb:Below wc.heap.size wc w'):w'.cell? ⟨gs,0,none⟩=some (.int .i64 x.k)∧w'.cell? ⟨gs,1,none⟩=some (.int .i64 x.n)∧w'.cell? ⟨gs,2,none⟩=some (sv)∧w'.cell? ⟨gs,3,none⟩=some (.int .i64 x.set)∧w'.cell? ⟨gs,4,none⟩=some (.int .i64 x.clr)∧w'.cell? ⟨gs,5,none⟩=some (.bool x.to)∧w'.cell? ⟨gs,6,none⟩=some (str x.l)∧w'.cell? ⟨gt,0,none⟩=some (.int .i64 y.k)∧w'.cell? ⟨gt,1,none⟩=some (.int .i64 y.n)∧w'.cell? ⟨gt,2,none⟩=some (tv)∧w'.cell? ⟨gt,3,none⟩=some (.int .i64 y.set)∧w'.cell? ⟨gt,4,none⟩=some (.int .i64 y.clr)∧w'.cell? ⟨gt,5,none⟩=some (.bool y.to)∧w'.cell? ⟨gt,6,none⟩=some (str y.l)∧B≤w'.heap.size∧Below B w5 w':=by
 obtain ⟨hS,hB,hw⟩:=kpU h
 exact kpM (hS.below hb) (Nat.le_trans hB hb.size) (hw.trans (hb.mono hB))
theorem kpG {gs gt B:Nat} {sv tv:Value} {x y:Pt} {w5 wc w':World} {own:Option Nat} (h:wc.cell? ⟨gs,0,none⟩=some (.int .i64 x.k)∧wc.cell? ⟨gs,1,none⟩=some (.int .i64 x.n)∧wc.cell? ⟨gs,2,none⟩=some (sv)∧wc.cell? ⟨gs,3,none⟩=some (.int .i64 x.set)∧wc.cell? ⟨gs,4,none⟩=some (.int .i64 x.clr)∧wc.cell? ⟨gs,5,none⟩=some (.bool x.to)∧wc.cell? ⟨gs,6,none⟩=some (str x.l)∧wc.cell? ⟨gt,0,none⟩=some (.int .i64 y.k)∧wc.cell? ⟨gt,1,none⟩=some (.int .i64 y.n)∧wc.cell? ⟨gt,2,none⟩=some (tv)∧wc.cell? ⟨gt,3,none⟩=some (.int .i64 y.set)∧wc.cell? ⟨gt,4,none⟩=some (.int .i64 y.clr)∧wc.cell? ⟨gt,5,none⟩=some (.bool y.to)∧wc.cell? ⟨gt,6,none⟩=some (str y.l)∧B≤wc.heap.size∧Below B w5 wc) (h1:some gs≠own) (h2:some gt≠own) (hn:∀ k ob,some k≠own→wc.heap[k]?=some ob→w'.heap[k]?=some ob) (hb:Below B wc w'):w'.cell? ⟨gs,0,none⟩=some (.int .i64 x.k)∧w'.cell? ⟨gs,1,none⟩=some (.int .i64 x.n)∧w'.cell? ⟨gs,2,none⟩=some (sv)∧w'.cell? ⟨gs,3,none⟩=some (.int .i64 x.set)∧w'.cell? ⟨gs,4,none⟩=some (.int .i64 x.clr)∧w'.cell? ⟨gs,5,none⟩=some (.bool x.to)∧w'.cell? ⟨gs,6,none⟩=some (str x.l)∧w'.cell? ⟨gt,0,none⟩=some (.int .i64 y.k)∧w'.cell? ⟨gt,1,none⟩=some (.int .i64 y.n)∧w'.cell? ⟨gt,2,none⟩=some (tv)∧w'.cell? ⟨gt,3,none⟩=some (.int .i64 y.set)∧w'.cell? ⟨gt,4,none⟩=some (.int .i64 y.clr)∧w'.cell? ⟨gt,5,none⟩=some (.bool y.to)∧w'.cell? ⟨gt,6,none⟩=some (str y.l)∧B≤w'.heap.size∧Below B w5 w':=by
 obtain ⟨hS,hB,hw⟩:=kpU h
 exact kpM (hS.grown h1 h2 hn) (Nat.le_trans hB hb.size) (hw.trans hb)
end Go.Mh
namespace Go.Mh
open Go.RowKit
theorem RdS.takeC {α:Type} {sz:Nat} {R:World→List Value→α→Prop} {F:Nat→Prop} {w:World} {b o n cap:Nat} {L:List α} (h:RdS sz R F w (.slice (some ⟨b,o,none⟩) n cap) L) (k:Nat) (hk:k≤n):RdS sz R F w (.slice (some ⟨b,o,none⟩) k k) (L.take k):=by
 obtain ⟨a,c,e,h1,h2,_,h4⟩:=h
 cases e
 have hl:(L.take k).length=k:=by simp;omega
 refine ⟨_,_,by rw [hl],by omega,by omega,fun h=>by simp at h,fun i x hx=>?_⟩
 refine h4 i x ?_
 rw [List.getElem?_take] at hx
 split at hx
 ·exact hx
 ·simp at hx
theorem RdS.dropC {α:Type} {sz:Nat} {R:World→List Value→α→Prop} {F:Nat→Prop} {w:World} {b o n cap:Nat} {L:List α} (h:RdS sz R F w (.slice (some ⟨b,o,none⟩) n cap) L) (k:Nat) (hk:k≤n):RdS sz R F w (.slice (some ⟨b,o+k * sz,none⟩) (n - k) (cap - k)) (L.drop k):=by
 obtain ⟨a,c,e,h1,h2,_,h4⟩:=h
 cases e
 refine ⟨_,_,by rw [List.length_drop],by rw [List.length_drop];omega,by omega,fun h=>by simp at h,fun i x hx=>?_⟩
 rw [List.getElem?_drop] at hx
 obtain ⟨b',o',cs,e,h5,h6,h7,h8⟩:=h4 (k+i) x hx
 cases e
 refine ⟨_,_,cs,rfl,h5,h6, ?_,h8⟩
 rw [show o+k * sz+i * sz=o+(k+i) * sz by rw [Nat.add_mul];omega]
 exact h7
theorem RdS.nilA {α:Type} {sz:Nat} {R:World→List Value→α→Prop} {F:Nat→Prop} {w:World} {a:Addr}:RdS sz R F w (.slice (some a) 0 0) ([]:List α):=
 ⟨_,_,rfl,Nat.le_refl _,by simp [maxLen],fun h=>by simp at h,fun i x h=>by simp at h⟩
structure LpJ (e er:TypeId) (w:World) (B g1 g2:Nat) (F:Nat→Prop) (w0 wr:World) (xv:Value) (X:List Pt) (p:Pt) (o:List Pt) (q:Pt) (u:List Pt):Prop where
 two:Two B e F w0 wr xv (.slice none 0 0) X []
 r1:Rdr er F w0 wr g1 p o
 r2:Rdr er F w0 wr g2 q u
 st:St F w0 wr
 bel:Below w.heap.size w wr
 F1:∀ k,F k→k < wr.heap.size∧k≠g1∧k≠g2∧some k≠xv.ownBlock
 fx:w.heap.size≤g1∧g1 < g2∧g2 < B
section
variable {e er:TypeId} {w w0:World} {F:Nat→Prop} {B g1 g2:Nat} {wr w':World} {xv xv':Value} {X X':List Pt} {p p':Pt} {o o':List Pt} {q q':Pt} {u u':List Pt}
theorem LpJ.at1 (h:LpJ e er w B g1 g2 F w0 wr xv X p o q u) (hs:Stays g1 wr w') (hr:Rdr er F w0 w' g1 p' o'):LpJ e er w B g1 g2 F w0 w' xv X p' o' q u:=by
 obtain ⟨f1,f2,f3⟩:=h.fx
 have hz:=h.two.hB
 have hz':=hs.bel.size
 exact ⟨h.two.stays hs (by omega),hr,h.r2.keep (hs.same g2 (by omega) (by omega)),fun k hk=>(hs.same k (h.F1 k hk).1 (h.F1 k hk).2.1).trans (h.st k hk),h.bel.trans (hs.bel.mono f1),fun k hk=>⟨by have:=(h.F1 k hk).1;omega,(h.F1 k hk).2⟩,h.fx⟩
theorem LpJ.at2 (h:LpJ e er w B g1 g2 F w0 wr xv X p o q u) (hs:Stays g2 wr w') (hr:Rdr er F w0 w' g2 q' u'):LpJ e er w B g1 g2 F w0 w' xv X p o q' u':=by
 obtain ⟨f1,f2,f3⟩:=h.fx
 have hz:=h.two.hB
 have hz':=hs.bel.size
 exact ⟨h.two.stays hs (by omega),h.r1.keep (hs.same g1 (by omega) (by omega)),hr,fun k hk=>(hs.same k (h.F1 k hk).1 (h.F1 k hk).2.2.1).trans (h.st k hk),h.bel.trans (hs.bel.mono (by omega)),fun k hk=>⟨by have:=(h.F1 k hk).1;omega,(h.F1 k hk).2⟩,h.fx⟩
theorem LpJ.below (h:LpJ e er w B g1 g2 F w0 wr xv X p o q u) (hb:Below wr.heap.size wr w'):LpJ e er w B g1 g2 F w0 w' xv X p o q u:=by
 obtain ⟨f1,f2,f3⟩:=h.fx
 have hz:=h.two.hB
 have hz':=hb.size
 exact ⟨h.two.below hb,h.r1.keep (hb.block g1 (by omega)),h.r2.keep (hb.block g2 (by omega)),fun k hk=>(hb.block k (h.F1 k hk).1).trans (h.st k hk),h.bel.trans (hb.mono (by omega)),fun k hk=>⟨by have:=(h.F1 k hk).1;omega,(h.F1 k hk).2⟩,h.fx⟩
theorem LpJ.grown (h:LpJ e er w B g1 g2 F w0 wr xv X p o q u) (T:Two B e F w0 w' xv' (.slice none 0 0) X' []) (hb:Below B wr w') (hn:∀ k ob,some k≠xv.ownBlock→wr.heap[k]?=some ob→w'.heap[k]?=some ob) (hat:xv'.ownBlock=xv.ownBlock∨xv'.ownBlock=some wr.heap.size) :
  LpJ e er w B g1 g2 F w0 w' xv' X' p o q u:=by
 obtain ⟨f1,f2,f3⟩:=h.fx
 have hz:=h.two.hB
 have hz':=hb.size
 refine ⟨T,h.r1.keep (hb.block g1 (by omega)),h.r2.keep (hb.block g2 (by omega)),fun k hk=>?_,h.bel.trans (hb.mono (by omega)),fun k hk=>?_,h.fx⟩
 ·obtain ⟨k1,_,_,k4⟩:=h.F1 k hk
  have e0:wr.heap[k]?=some wr.heap[k]:=Array.getElem?_eq_getElem k1
  rw [← h.st k hk,e0]
  exact hn k _ k4 e0
 ·obtain ⟨k1,k2,k3,k4⟩:=h.F1 k hk
  refine ⟨by omega,k2,k3, ?_⟩
  rcases hat with e | e
  ·rw [e];exact k4
  ·rw [e];intro h2;cases h2;omega
theorem LpJ.ext (h:LpJ e er w B g1 g2 F w0 wr xv X p o q u) (N:Nat→Prop) (hN:∀ k,N k→k < wr.heap.size∧k≠g1∧k≠g2∧some k≠xv.ownBlock):LpJ e er w B g1 g2 (fun k=>F k∨N k) wr wr xv X p o q u:=by
 have kp:Kp F (fun k=>F k∨N k) w0 wr:=fun k hF _=>⟨Or.inl hF,h.st k hF⟩
 have kr:∀ {g p o},Rdr er F w0 wr g p o→Rdr er (fun k=>F k∨N k) wr wr g p o:=fun ⟨ov,sv,h1,h2,h3⟩=>⟨ov,sv,h1,ROp.to h2 kp,RItems.to h3 kp⟩
 refine ⟨⟨h.two.x.to (fun _ _ _=>rfl) fun _ _ _ r=>RPt.to r kp,h.two.y.to (fun _ _ _=>rfl) fun _ _ _ r=>RPt.to r kp,h.two.ne,h.two.hB⟩,kr h.r1,kr h.r2,fun _ _=>rfl,h.bel,fun k hk=>?_,h.fx⟩
 rcases hk with hk | hk
 ·exact h.F1 k hk
 ·exact hN k hk
theorem LpJ.start (h1:Rdr er F w0 w0 g1 p o) (h2:Rdr er F w0 w0 g2 q u) (hb:Below w.heap.size w w0) (hB:B≤w0.heap.size) (fx:w.heap.size≤g1∧g1 < g2∧g2 < B) (F1:∀ k,F k→k < w0.heap.size∧k≠g1∧k≠g2):LpJ e er w B g1 g2 F w0 w0 (.slice none 0 0) [] p o q u:=
 ⟨Two.start hB,h1,h2,fun _ _=>rfl,hb,fun k hk=>⟨(F1 k hk).1,(F1 k hk).2.1,(F1 k hk).2.2,by simp [Value.ownBlock]⟩,fx⟩
end
theorem wpList_appJ {P:Program} {ops:Array Oper} {o:Oper} {a:Act} {w:World} {Q:Exit→Act→World→Prop} {rest:List Oper} (hg:o.guard=none) (s x:Operand) (t:TypeId) (hop:o.op=Op.call { callee:=Callee.builtin Builtin.append,args:=#[s,x],argTypes:=#[t,t] })
  (B e bytes:Nat) (z:Value) (hel:El P t e 7 bytes z) {F:Nat→Prop} {w0:World} {xv yv:Value} {X Y:List Pt} (T:Two B e F w0 w xv yv X Y) (hs:a.eval s=xv)
  (g:Nat) (y:Pt) (sv:Value) (hx:a.eval x=.slice (some ⟨g,0,none⟩) 1 1) (hblk:w.heap[g]?=some (.cells #[.int .i64 y.k,.int .i64 y.n,sv,.int .i64 y.set,.int .i64 y.clr,.bool y.to,str y.l] e (0,0))) (hI:RItems F w0 sv y.its)
  (hl:X.length≤1000) (hby:bytes≤1000)
  (h:∀ a' c' w',Two B e F w0 w' (.slice a' (X.length+1) c') yv (X ++ [y]) Y→Below B w w'→(∀ k ob,some k≠xv.ownBlock→w.heap[k]?=some ob→w'.heap[k]?=some ob)→((Value.slice a' (X.length+1) c').ownBlock=xv.ownBlock∨(Value.slice a' (X.length+1) c').ownBlock=some w.heap.size)→wpList P ops Q rest (a.put o.dst (.slice a' (X.length+1) c')) w') :
  wpList P ops Q (o :: rest) a w:=by
 refine wpList_plain hg fun K hK=>?_
 obtain ⟨v',w',hrun,h1,h2,h3,h4⟩:=run_app (P:=P) (w:=w) t o.type B e 7 bytes z hel (RX F w0) xv X [y] T.x (fun _=>True) _ (RX_src hblk hI) (RX_one F w0) (by simp [maxLen];omega) (by simp;have:=Nat.mul_le_mul (show X.length+1≤1001 by omega) hby;omega) T.hB (fun _ _ _ _ _ r=>r)
 obtain ⟨a',c',rfl,_⟩:=h1.rd
 unfold Oper.wp
 simp [execOp,hop,resolve,invoke,builtin,hs,hx,hrun,Result.andThen]
 have hfin:=h a' c' w' (by simpa using T.growX h1 h2 h4) h3 (fun k ob hne hk=>(h2.block k (lt_of_heap hk) hne).trans hk) (by simpa [Value.ownBlock] using h4)
 exact hK _ _ (by simpa using hfin)
theorem OwnS.rdN {α:Type} {base e sz:Nat} {R:World→List Value→α→Prop} {w:World} {v:Value} {L:List α} (h:OwnS base e sz R w v L):RdS sz R (fun k=>v.ownBlock=some k) w v L:=by
 have h0:=h
 obtain ⟨css,⟨_,h1⟩,_⟩:=h0
 have hr:=h.rd
 rcases h1 with ⟨rfl,hn⟩ | ⟨g,cap,cur,rfl,hg,hh,_⟩
 ·obtain rfl:=List.eq_nil_of_length_eq_zero hn
  exact RdS.nil
 ·obtain ⟨a,c,e1,h2,h3,h4,h5⟩:=hr
  cases e1
  refine ⟨_,_,rfl,h2,h3,h4,fun i x hx=>?_⟩
  obtain ⟨b,o,cs,e2,_,h6,h7,h8⟩:=h5 i x hx
  cases e2
  exact ⟨_,_,cs,rfl,rfl,h6,h7,h8⟩
theorem take_map_snoc {α β:Type} {l:List α} {j:Nat} {x:α} (f:α→β) (h:l[j]?=some x):(l.take (j+1)).map f=(l.take j).map f ++ [f x]:=by
 rw [List.take_add_one,h];simp
end Go.Mh
namespace Go.Proofs.YteikncnldbdfmaaGreatDoor
open Go.RowKit Go.Mh
def smallL:List It:=[⟨97,0,[]⟩,⟨98,1,[]⟩,⟨10,1,[]⟩,⟨60,0,[104,116,116,112,58,38]⟩,⟨10,2,[]⟩]
theorem small_chk:chkDoc smallL=0:=by decide +kernel
set_option maxHeartbeats 400000 in
theorem small_any (w:World) :
  Calls Tryz.prog 40 #[] w fun e w'=>∃ v,e=.returned v∧RItems (w.heap.size≤·) w' v smallL∧Below w.heap.size w w':=by
 go_enter Tryz.func40,Tryz.ntmps40
 go_wp2
 go_ret
 refine ⟨_,rfl,RItems.lit (heap_new _ _) rfl (by decide) (by decide) (Nat.le_refl _) (fun i x hi=>?_),(Below.refl _ _).alloc (Nat.le_refl _) _⟩
 match i,hi with
 | 0,hi=>simp [smallL] at hi;subst hi;exact ⟨rfl,rfl,rfl⟩
 | 1,hi=>simp [smallL] at hi;subst hi;exact ⟨rfl,rfl,rfl⟩
 | 2,hi=>simp [smallL] at hi;subst hi;exact ⟨rfl,rfl,rfl⟩
 | 3,hi=>simp [smallL] at hi;subst hi;exact ⟨rfl,rfl,rfl⟩
 | 4,hi=>simp [smallL] at hi;subst hi;exact ⟨rfl,rfl,rfl⟩
 | n+5,hi=>simp [smallL] at hi
end Go.Proofs.YteikncnldbdfmaaGreatDoor
namespace Go.Mh
open Go.RowKit
def RSl {α:Type} (sz:Nat) (R:World→List Value→α→Prop) (F:Nat→Prop) (w:World) (cs:List Value) (l:List α):Prop:=∃ v,cs=[v]∧RdS sz R F w v l
theorem RdS.at1 {α:Type} {sz:Nat} {R:World→List Value→α→Prop} {F:Nat→Prop} {w wr:World} {a:Option Addr} {n cap:Nat} {LL:List (List α)} (h:RdS 1 (RSl sz R F) F w (.slice a n cap) LL) (hs:0 < sz) (hR:∀ cs x,R w cs x→R wr cs x) (hb:Below w.heap.size w wr) {k:Nat} {l:List α} (hx:LL[k]?=some l) :
  ∃ b o v,a=some ⟨b,o,none⟩∧wr.cell? ⟨b,o+k,none⟩=some v∧RdS sz R F wr v l:=by
 obtain ⟨a',cap',e,_,_,_,hel⟩:=h
 cases e
 obtain ⟨b,o,cs,h1,_,_,hat,v,hcs,hr⟩:=hel k l hx
 subst hcs
 refine ⟨b,o,v,h1, ?_,hr.to hs (fun k hF hk=>⟨hF,hb.block k hk⟩) (fun cs x _ r=>hR cs x r)⟩
 have:=(hat.to (hb.block b (hat.lt (by simp)))).one
 simpa using this
theorem OwnS.low {α:Type} {b b' e sz:Nat} {R:World→List Value→α→Prop} {w:World} {v:Value} {L:List α} (h:OwnS b e sz R w v L) (hb:b'≤b):OwnS b' e sz R w v L:=by
 obtain ⟨css,⟨h0,h1⟩,h2,h3⟩:=h
 refine ⟨css,⟨h0, ?_⟩,h2,h3⟩
 rcases h1 with h1 | ⟨g,cap,cur,e1,hg,hr⟩
 ·exact Or.inl h1
 ·exact Or.inr ⟨g,cap,cur,e1,Nat.le_trans hb hg,hr⟩
def lenN {α:Type} (LL:List (List α)) (k:Nat):Nat:=(LL.take k).flatten.length
theorem lenN_step {α:Type} {LL:List (List α)} {k:Nat} {l:List α} (h:LL[k]?=some l):lenN LL (k+1)=lenN LL k+l.length:=by
 unfold lenN;rw [List.take_add_one,h];simp
theorem flat_step {α:Type} {LL:List (List α)} {k:Nat} {l:List α} (h:LL[k]?=some l):(LL.take (k+1)).flatten=(LL.take k).flatten ++ l:=by
 rw [List.take_add_one,h];simp
theorem lenN_le {α:Type} (LL:List (List α)) (k:Nat):lenN LL k≤LL.flatten.length:=by
 unfold lenN
 conv=>rhs;rw [← List.take_append_drop k LL,List.flatten_append,List.length_append]
 omega
end Go.Mh
namespace Go.Proofs.YteikncnldbdfmaaGreatDoor
open Go.RowKit Go.Mh
theorem under_Item:Tryz.prog.underlying 58=some (.struct (Tryz.prog.fieldsOf 58)):=by kernel_rfl
theorem held_Item:Tryz.prog.stoodInHeld 58=false:=by kernel_rfl
theorem guard_Item:Tryz.prog.eqGuardType Tryz.prog.depth 58=false:=by kernel_rfl
theorem fields_Item : (Tryz.prog.fieldsOf 58).toList.map (fun f => (f.name, f.type, f.offset)) = [("C", 5, 0), ("Marks", 3, 1), ("Link", 9, 2)] := by kernel_rfl
theorem eqFields_map (d:Nat) (xs ys:Array Value):∀ (fs gs:List Field),fs.map (fun f=>(f.name,f.type,f.offset))=gs.map (fun f=>(f.name,f.type,f.offset))→Op.eqFields d xs ys fs=Op.eqFields d xs ys gs
 | [],[],_=>rfl
 | f :: fs,g :: gs,h=>by
  simp only [List.map_cons,List.cons.injEq,Prod.mk.injEq] at h
  obtain ⟨⟨h1,h2,h3⟩,h4⟩:=h
  simp only [Op.eqFields,h1,h2,h3,eqFields_map d xs ys fs gs h4]
def fld (n : String) (t o : Nat) : Field := ⟨n, t, o, false, "", "", 0⟩
theorem eqItem (x y:It) (w:World):(Op.equalIn 10000 58 (.agg #[.int .u8 x.c.toNat,.int .i64 x.m,str x.l]) (.agg #[.int .u8 y.c.toNat,.int .i64 y.m,str y.l])).run Tryz.prog w=.ok (decide (x=y)) w:=by
 rw [run_equalIn_struct w 9999 _ _ _ under_Item held_Item]
 rw [eqFields_map 9999 _ _ _ [fld "C" 5 0, fld "Marks" 3 1, fld "Link" 9 2] fields_Item]
 simp [Op.eqFields,fld,go_sem,Tryz.underlying5,Tryz.underlying3,Tryz.underlying9]
 obtain ⟨c,m,l⟩:=x
 obtain ⟨c',m',l'⟩:=y
 have e:((c.toNat:Int)=(c'.toNat:Int))↔c=c':=by rw [← UInt8.toNat_inj];omega
 simp only [e,It.mk.injEq]
 by_cases h1:c=c' <;> by_cases h2:m=m' <;> by_cases h3:l=l' <;> simp [h1,h2,h3]
theorem neqItem (x y:It) (w:World):(binOp .neq 58 (.agg #[.int .u8 x.c.toNat,.int .i64 x.m,str x.l]) (.agg #[.int .u8 y.c.toNat,.int .i64 y.m,str y.l])).run Tryz.prog w=.ok (.bool (!decide (x=y))) w:=by
 rw [run_neq_struct,eqItem];rfl
theorem RInts.at {F:Nat→Prop} {w wr:World} {a:Option Addr} {n cap:Nat} {L:List Int} (h:RInts F w (.slice a n cap) L) (hb:Below w.heap.size w wr) {k:Nat} {x:Int} (hx:L[k]?=some x) :
  ∃ b o,a=some ⟨b,o,none⟩∧wr.cell? ⟨b,o+k,none⟩=some (.int .i64 x):=by
 obtain ⟨a',cap',e,_,_,_,hel⟩:=h
 cases e
 obtain ⟨b,o,cs,h1,_,_,hat,hR⟩:=hel k x hx
 subst hR
 exact ⟨b,o,h1,by simpa using (hat.to (hb.block b (hat.lt (by simp)))).one⟩
theorem RItems.at {F:Nat→Prop} {w wr:World} {a:Option Addr} {n cap:Nat} {L:List It} (h:RItems F w (.slice a n cap) L) (hb:Below w.heap.size w wr) {k:Nat} {x:It} (hx:L[k]?=some x) :
  ∃ b o,a=some ⟨b,o,none⟩∧wr.cell? ⟨b,o+k * 3,none⟩=some (.int .u8 x.c.toNat)∧wr.cell? ⟨b,o+k * 3+1,none⟩=some (.int .i64 x.m)∧wr.cell? ⟨b,o+k * 3+2,none⟩=some (str x.l):=by
 obtain ⟨a',cap',e,_,_,_,hel⟩:=h
 cases e
 obtain ⟨b,o,cs,h1,_,_,hat,hR⟩:=hel k x hx
 subst hR
 exact ⟨b,o,h1,(hat.to (hb.block b (hat.lt (by simp)))).three⟩
theorem RToks.at {F:Nat→Prop} {w wr:World} {a:Option Addr} {n cap:Nat} {L:List Tok} (h:RToks F w (.slice a n cap) L) (hb:Below w.heap.size w wr) {k:Nat} {x:Tok} (hx:L[k]?=some x) :
  ∃ b o,a=some ⟨b,o,none⟩∧wr.cell? ⟨b,o+k * 4,none⟩=some (.int .i64 x.k)∧wr.cell? ⟨b,o+k * 4+1,none⟩=some (str x.name)∧wr.cell? ⟨b,o+k * 4+2,none⟩=some (str x.text)∧wr.cell? ⟨b,o+k * 4+3,none⟩=some (str x.href):=by
 obtain ⟨a',cap',e,_,_,_,hel⟩:=h
 cases e
 obtain ⟨b,o,cs,h1,_,_,hat,hR⟩:=hel k x hx
 subst hR
 exact ⟨b,o,h1,(hat.to (hb.block b (hat.lt (by simp)))).four⟩
theorem RdS.len {α:Type} {sz:Nat} {R:World→List Value→α→Prop} {F:Nat→Prop} {w:World} {v:Value} {L:List α} (h:RdS sz R F w v L):∃ a cap,v=.slice a L.length cap∧L.length≤9223372036854775807:=by
 obtain ⟨a,cap,e,h1,h2,_⟩:=h
 exact ⟨a,cap,e,by unfold maxLen at h2;omega⟩
theorem run_string_of (F:Nat→Prop) (w:World) (v:Value) (l:Bs) (h:RBytes F w v l):(convert 41 9 v).run Tryz.prog w=.ok (str l) w:=by
 obtain ⟨a,cap,rfl,h1,h2,h3,h4⟩:=h
 cases a with
 | none =>
  have hl:l=[]:=by
   cases l with
   | nil=>rfl
   | cons x l=>obtain ⟨_,_,_,h,_⟩:=h4 0 x rfl;simp at h
  subst hl
  exact run_convert_bytes_nil w 41 5 Tryz.underlying41 Tryz.underlying5 _ _ 9 Tryz.underlying9
 | some ad =>
  refine run_convert_bytes_back w 41 9 5 ad cap l Tryz.underlying41 Tryz.underlying5 Tryz.underlying9 fun j hj=>?_
  obtain ⟨b,o,cs,e,_,_,hat,hR⟩:=h4 j l[j] (List.getElem?_eq_getElem hj)
  subst hR
  cases e
  rw [Addr.add_lit]
  simpa using hat.one
end Go.Proofs.YteikncnldbdfmaaGreatDoor
