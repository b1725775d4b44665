import Derived.Lib.Bytealg
import Derived.Lib.IndexAny
import Derived.WalkSmall
import Derived.Lib.IndexMore
namespace Go.Mh
abbrev Bs:=List UInt8
structure It where
 c:UInt8
 m:Int
 l:Bs
 deriving DecidableEq
structure Pt where
 k:Int
 n:Int
 its:List It
 set:Int
 clr:Int
 to:Bool
 l:Bs
 deriving DecidableEq
structure Tok where
 k:Int
 name:Bs
 text:Bs
 href:Bs
 deriving DecidableEq
structure En where
 client:Int
 seq:Int
 o:List Pt
 deriving DecidableEq
structure Srv where
 first:List It
 log:List En
 now:List It
structure Cl where
 rev:Int
 base:List It
 now:List It
 seq:Int
 sent:List Pt
 held:List Pt
 joined:Bool
structure Msg where
 rev:Int
 e:En
structure Wd where
 s:Srv
 cl:List Cl
 up:List (List Msg)
 down:List (List Msg)
structure Hap where
 kind:Int
 client:Int
 n:Int
 o:List Pt
 b:Bs
end Go.Mh
namespace Go.Mh
def cut1 (c:UInt8) (l:Bs):Bs × Bs × Bool:=
 if c ∈ l then (l.takeWhile (· != c),(l.dropWhile (· != c)).tail,true) else (l,[],false)
theorem indexByte_none {c:UInt8}:∀ {l:Bs},c ∉ l→Lib.indexByte l c=-1
 | [],_=>rfl
 | b :: l,h=>by
  have h1:(b == c)=false:=by simp at h ⊢;exact fun e=>h.1 e.symm
  have h2:c ∉ l:=fun hc=>h (List.mem_cons_of_mem _ hc)
  simp [Lib.indexByte,h1,indexByte_none h2]
theorem indexByte_some {c:UInt8}:∀ {l:Bs},c ∈ l→Lib.indexByte l c=((l.takeWhile (· != c)).length:Int)
 | b :: l,h=>by
  by_cases hb:b=c
  ·subst hb
   simp [Lib.indexByte]
  ·have h1:(b == c)=false:=by simpa using hb
   have h2:c ∈ l:=by
    rcases List.mem_cons.1 h with h | h
    ·exact absurd h.symm hb
    ·exact h
   have ih:=indexByte_some h2
   have h3:((l.takeWhile (· != c)).length:Int)≠-1:=by omega
   simp [Lib.indexByte,h1,ih,hb]
theorem take_takeWhile {α:Type} (p:α→Bool):∀ (l:List α),l.take (l.takeWhile p).length=l.takeWhile p
 | []=>rfl
 | b :: l=>by
  by_cases hb:p b=true
  ·simp [hb,take_takeWhile p l]
  ·simp [hb]
theorem drop_takeWhile {α:Type} (p:α→Bool):∀ (l:List α),l.drop (l.takeWhile p).length=l.dropWhile p
 | []=>rfl
 | b :: l=>by
  by_cases hb:p b=true
  ·simp [hb,drop_takeWhile p l]
  ·simp [hb]
theorem takeWhile_len_lt {c:UInt8} {l:Bs} (h:c ∈ l):(l.takeWhile (· != c)).length < l.length:=by
 induction l with
 | nil=>simp at h
 | cons b l ih =>
  by_cases hb:b=c
  ·subst hb;simp
  ·have h2:c ∈ l:=by
    rcases List.mem_cons.1 h with h | h
    ·exact absurd h.symm hb
    ·exact h
   have:=ih h2
   simp [hb,this]
theorem take_snoc_mem {α:Type} {p:α→Prop} {l:List α} {k:Nat} {x:α} (hk:l[k]?=some x) (h:∀ y ∈ l.take k,p y) (hx:p x):∀ y ∈ l.take (k+1),p y:=by
 intro y hy
 rw [List.take_add_one,hk] at hy
 simp only [Option.toList_some,List.mem_append,List.mem_singleton] at hy
 rcases hy with hy | rfl
 ·exact h y hy
 ·exact hx
def lowB (c:UInt8):UInt8:=if 65≤c∧c≤90 then c+32 else c
def lower (l:Bs):Bs:=l.map lowB
theorem lowB_up {c:UInt8} (h1:65≤(c.toNat:Int)) (h2:(c.toNat:Int)≤90):((lowB c).toNat:Int)=(c.toNat:Int)+97 - 65:=by
 have a1:(65:UInt8)≤c:=by rw [UInt8.le_iff_toNat_le];show 65≤c.toNat;omega
 have a2:c≤(90:UInt8):=by rw [UInt8.le_iff_toNat_le];show c.toNat≤90;omega
 simp [lowB,a1,a2]
 omega
theorem lowB_id {c:UInt8} (h:¬ (65≤(c.toNat:Int)∧(c.toNat:Int)≤90)):lowB c=c:=by
 unfold lowB
 rw [if_neg]
 rintro ⟨a1,a2⟩
 rw [UInt8.le_iff_toNat_le] at a1 a2
 have:(65:UInt8).toNat=65:=rfl
 have:(90:UInt8).toNat=90:=rfl
 omega
def scheme (s:Bs):Bs:=
 if 58 ∈ s∧(s.takeWhile (· != 58))≠[]∧Lib.containsAny (s.takeWhile (· != 58)) [47,63,35]=false then lower (s.takeWhile (· != 58)) else []
def okC (c:UInt8):Bool:=32 < c && c≤126 && c != 34 && c != 39 && c != 60 && c != 62 && c != 92 && c != 96
def sHttp:Bs:=[104,116,116,112]
def sHttps:Bs:=[104,116,116,112,115]
def sMailto:Bs:=[109,97,105,108,116,111]
def may (s:Bs):Bool:=s != [] && decide (s.length≤24) && s.all okC && [sHttp,sHttps,sMailto].contains (scheme s)
end Go.Mh
namespace Go.Mh
def chkItem (x:It):Int:=
 if ¬ (x.c.toNat:Int)=10∧((x.c.toNat:Int) < 32∨126 < (x.c.toNat:Int)) then 1
 else if x.m < 0∨3 < x.m then 3
 else if x.l≠[]∧((x.c.toNat:Int)=10∨may x.l=false) then 4
 else 0
def chkItems:List It→Int
 | []=>0
 | x :: l=>if chkItem x=0 then chkItems l else chkItem x
def chkDoc (d:List It):Int:=
 if 80 < d.length then 2
 else if chkItems d≠0 then chkItems d
 else match d.getLast? with
  | none=>4
  | some x=>if (x.c.toNat:Int)=10 then 0 else 4
theorem chkItems_none {l:List It} (h:∀ x ∈ l,chkItem x=0):chkItems l=0:=by
 induction l with
 | nil=>rfl
 | cons x l ih=>simp [chkItems,h x (by simp),ih fun y hy=>h y (by simp [hy])]
theorem chkItems_some {l:List It} {k:Nat} {x:It} (hk:l[k]?=some x) (hx:chkItem x≠0) (h:∀ y ∈ l.take k,chkItem y=0):chkItems l=chkItem x:=by
 induction l generalizing k with
 | nil=>simp at hk
 | cons y l ih =>
  cases k with
  | zero=>simp at hk;subst hk;simp [chkItems,hx]
  | succ k =>
   have hy:=h y (by simp)
   simp [chkItems,hy]
   exact ih (by simpa using hk) fun z hz=>h z (by simp [hz])
def badAt (l:List It):Int:=match l.findIdx? (fun x=>chkItem x != 0) with
 | some k=>(k:Int)
 | none=>-1
theorem badAt_none {l:List It} (h:∀ x ∈ l,chkItem x=0):badAt l=-1:=by
 have:l.findIdx? (fun x=>chkItem x != 0)=none:=by
  rw [List.findIdx?_eq_none_iff]
  intro x hx
  simp [h x hx]
 simp [badAt,this]
theorem badAt_some {l:List It} {k:Nat} {x:It} (hk:l[k]?=some x) (hx:chkItem x≠0) (h:∀ y ∈ l.take k,chkItem y=0):badAt l=k:=by
 obtain ⟨hlt,hxe⟩:=List.getElem?_eq_some_iff.1 hk
 have:l.findIdx? (fun x=>chkItem x != 0)=some k:=by
  rw [List.findIdx?_eq_some_iff_getElem]
  refine ⟨hlt,by rw [hxe];simpa using hx,fun j hj=>?_⟩
  have:=h l[j] (by rw [List.mem_take_iff_getElem];exact ⟨j,by omega,rfl⟩)
  simp [this]
 simp [badAt,this]
theorem chkDoc_ok {L:List It} (h:chkDoc L=0):L≠[]∧L.length≤80:=by
 unfold chkDoc at h
 split at h
 ·cases h
 ·split at h
  ·contradiction
  ·constructor
   ·rintro rfl;simp at h
   ·omega
end Go.Mh
namespace Go.Mh
abbrev band (a b:Int):Int:=Go.bits Go.BinOp.and Go.IntKind.i64 a b
abbrev bor (a b:Int):Int:=Go.bits Go.BinOp.or Go.IntKind.i64 a b
abbrev bnot (a b:Int):Int:=Go.bits Go.BinOp.andNot Go.IntKind.i64 a b
def chkPt (p:Pt):Int:=
 if p.k=1 then
  if p.set < 0∨3 < p.set∨p.clr < 0∨3 < p.clr∨band p.set p.clr≠0 then 3
  else if p.l≠[]∧(p.to=false∨may p.l=false) then 4
  else if p.n < 1∨80 < p.n then 3
  else if p.its≠[] then 4 else 0
 else if p.k=2 then
  if p.its=[]∨80 < p.its.length then 2
  else if chkItems p.its≠0 then chkItems p.its
  else if p.n≠0∨p.set≠0∨p.clr≠0∨p.to=true∨p.l≠[] then 4 else 0
 else if p.k=3 then
  if p.n < 1∨80 < p.n then 3
  else if p.set≠0∨p.clr≠0∨p.to=true∨p.l≠[]∨p.its≠[] then 4 else 0
 else 4
theorem chkPt1 (n:Int) (its:List It) (set clr:Int) (to:Bool) (l:Bs):chkPt ⟨1,n,its,set,clr,to,l⟩=if set < 0∨3 < set∨clr < 0∨3 < clr∨Go.bits Go.BinOp.and Go.IntKind.i64 set clr≠0 then 3
  else if l≠[]∧(to=false∨may l=false) then 4 else if n < 1∨80 < n then 3 else if its≠[] then 4 else 0:=rfl
theorem chkPt2 (n:Int) (its:List It) (set clr:Int) (to:Bool) (l:Bs):chkPt ⟨2,n,its,set,clr,to,l⟩=if its=[]∨80 < its.length then 2 else if chkItems its≠0 then chkItems its
  else if n≠0∨set≠0∨clr≠0∨to=true∨l≠[] then 4 else 0:=rfl
theorem chkPt3 (n:Int) (its:List It) (set clr:Int) (to:Bool) (l:Bs):chkPt ⟨3,n,its,set,clr,to,l⟩=if n < 1∨80 < n then 3 else if set≠0∨clr≠0∨to=true∨l≠[]∨its≠[] then 4 else 0:=rfl
theorem chkPt4 (k n:Int) (its:List It) (set clr:Int) (to:Bool) (l:Bs) (h1:¬k=1) (h2:¬k=2) (h3:¬k=3):chkPt ⟨k,n,its,set,clr,to,l⟩=4:=by simp [chkPt,h1,h2,h3]
theorem small4 {a:Int} (h0:0≤a) (h3:a≤3):∃ x:Fin 4,a=(x.val:Int):=⟨⟨a.toNat,by omega⟩,by simp;omega⟩
def chkPts:Int→List Pt→Int
 | _,[]=>0
 | n,p :: l=>if chkPt p≠0 then chkPt p else if 80 < n+p.n then 2 else chkPts (n+p.n) l
def chkOp (o:List Pt):Int:=
 if o=[]∨40 < o.length then 2
 else if chkPts 0 o≠0 then chkPts 0 o
 else match o.getLast? with
  | none=>4
  | some p=>if p.k=1 then 0 else 4
theorem chkPt_n {p:Pt} (h:chkPt p=0):0≤p.n∧p.n≤80:=by
 obtain ⟨k,n,its,set,clr,to,l⟩:=p
 simp only [chkPt] at h
 split at h
 ·split at h;· simp at h
  split at h;· simp at h
  split at h;· simp at h
  simp;omega
 ·split at h
  ·split at h;· simp at h
   split at h;· rename_i hne;exact absurd h hne
   split at h;· simp at h
   rename_i hx
   simp at hx ⊢
   omega
  ·split at h
   ·split at h;· simp at h
    simp;omega
   ·simp at h
theorem chkPts_step {L:List Pt} {k:Nat} {p:Pt} (n:Int) (hk:L[k]?=some p):chkPts n (L.drop k)=if chkPt p≠0 then chkPt p else if 80 < n+p.n then 2 else chkPts (n+p.n) (L.drop (k+1)):=by
 obtain ⟨hlt,rfl⟩:=List.getElem?_eq_some_iff.1 hk
 rw [List.drop_eq_getElem_cons hlt]
 rfl
theorem chkOp_many {L:List Pt} (h:L=[]∨40 < L.length):chkOp L=2:=by simp [chkOp,h]
theorem chkOp_bad {L:List Pt} (h:¬(L=[]∨40 < L.length)) (hb:chkPts 0 L≠0):chkOp L=chkPts 0 L:=by simp only [chkOp,if_neg h,if_pos hb]
theorem chkOp_last {L:List Pt} {p:Pt} (h:¬(L=[]∨40 < L.length)) (hb:chkPts 0 L=0) (hp:L[L.length - 1]?=some p):chkOp L=if p.k=1 then 0 else 4:=by
 have hl:L.getLast?=some p:=by rw [List.getLast?_eq_getElem?];exact hp
 simp only [chkOp,if_neg h,hl]
 rw [if_neg (by simp [hb])]
end Go.Mh
namespace Go.Mh
structure Kd where
 set:Int
 clr:Int
 to:Bool
 l:Bs
 deriving DecidableEq
inductive Ac where
 | keep (c:Kd)
 | put (x:It)
 | cut
 deriving DecidableEq
def kd0:Kd:=⟨0,0,false,[]⟩
def markI (x:It) (c:Kd):It:=⟨x.c,bor (bnot x.m c.clr) c.set,if c.to=true∧¬ (x.c.toNat:Int)=10 then c.l else x.l⟩
def Pt.kd (p:Pt):Kd:=⟨p.set,p.clr,p.to,p.l⟩
def actsP (p:Pt):List Ac:=if p.k=1 then List.replicate p.n.toNat (.keep p.kd) else if p.k=2 then p.its.map .put else if p.k=3 then List.replicate p.n.toNat .cut else []
def acts (o:List Pt):List Ac:=o.flatMap actsP
def keepP (c:Kd) (n:Int):Pt:=⟨1,n,[],c.set,c.clr,c.to,c.l⟩
def putP (l:List It):Pt:=⟨2,0,l,0,0,false,[]⟩
def cutP (n:Int):Pt:=⟨3,n,[],0,0,false,[]⟩
def Fm (p:Pt):Prop:=(∃ c n,0≤n∧p=keepP c n)∨(∃ l,p=putP l)∨(∃ n,0≤n∧p=cutP n)
theorem acts_nil:acts []=[]:=rfl
theorem acts_cons (p:Pt) (o:List Pt):acts (p :: o)=actsP p ++ acts o:=by simp [acts]
theorem acts_append (o u:List Pt):acts (o ++ u)=acts o ++ acts u:=by simp [acts]
theorem acts_one (p:Pt):acts [p]=actsP p:=by simp [acts]
theorem actsP_keep (c:Kd) (n:Int):actsP (keepP c n)=List.replicate n.toNat (.keep c):=rfl
theorem actsP_put (l:List It):actsP (putP l)=l.map .put:=rfl
theorem actsP_cut (n:Int):actsP (cutP n)=List.replicate n.toNat .cut:=rfl
def alikeP (a b:Pt):Bool:=a.k == b.k && a.set == b.set && a.clr == b.clr && a.to == b.to && a.l == b.l
def addP (o:List Pt) (p:Pt):List Pt:=
 if (p.k≠2∧p.n=0)∨(p.k=2∧p.its=[]) then o
 else match o.getLast? with
  | some q=>if alikeP q p=true then o.dropLast ++ [{ q with n:=q.n+p.n,its:=q.its ++ p.its }] else o ++ [p]
  | none=>o ++ [p]
def mk2 (out:List Pt) (its:List It) (n:Int):List Pt→List Pt
 | []=>addP (addP out (putP its)) (cutP n)
 | p :: l=>if p.k=1 then mk2 (addP (addP (addP out (putP its)) (cutP n)) p) [] 0 l else mk2 out (its ++ p.its) (n+p.n) l
def madeP (L:List Pt):List Pt:=mk2 [] [] 0 L
theorem addP_none (o:List Pt) (p:Pt) (h:(p.k≠2∧p.n=0)∨(p.k=2∧p.its=[])):addP o p=o:=by simp only [addP,if_pos h]
theorem addP_put_nil (o:List Pt):addP o (putP [])=o:=addP_none o _ (Or.inr ⟨rfl,rfl⟩)
theorem addP_cut_zero (o:List Pt):addP o (cutP 0)=o:=addP_none o _ (Or.inl ⟨by decide,rfl⟩)
theorem mk2_keep (out:List Pt) (its:List It) (n:Int) (p:Pt) (l:List Pt) (h:p.k=1):mk2 out its n (p :: l)=mk2 (addP (addP out (putP its)) (cutP n)) [] 0 (p :: l):=by
 simp [mk2,h,addP_put_nil,addP_cut_zero]
theorem mk2_end (out:List Pt) (its:List It) (n:Int):mk2 out its n []=mk2 (addP (addP out (putP its)) (cutP n)) [] 0 []:=by
 simp [mk2,addP_put_nil,addP_cut_zero]
def flush (out:List Pt) (ps:List It) (c:Nat):List Pt:=out ++ (if ps=[] then [] else [putP ps]) ++ (if c=0 then [] else [cutP c])
def addK (out:List Pt) (k:Kd) (n:Nat):List Pt:=match out.getLast? with
 | some q=>if q.k=1∧q.kd=k then out.dropLast ++ [{ q with n:=q.n+n }] else out ++ [keepP k n]
 | none=>out ++ [keepP k n]
def tid (out:List Pt) (ps:List It) (c:Nat):List Ac→List Pt
 | []=>flush out ps c
 | .put x :: l=>tid out (ps ++ [x]) c l
 | .cut :: l=>tid out ps (c+1) l
 | .keep k :: l=>tid (addK (flush out ps c) k 1) [] 0 l
def tidyA (l:List Ac):List Pt:=tid [] [] 0 l
def nrm (ps:List It) (c:Nat):List Ac→List Ac
 | []=>ps.map .put ++ List.replicate c .cut
 | .put x :: l=>nrm (ps ++ [x]) c l
 | .cut :: l=>nrm ps (c+1) l
 | .keep k :: l=>ps.map .put ++ List.replicate c .cut ++ .keep k :: nrm [] 0 l
def normA (l:List Ac):List Ac:=nrm [] 0 l
theorem flush_nil (out:List Pt):flush out [] 0=out:=by simp [flush]
theorem addK_some {out:List Pt} {q:Pt} {k:Kd} (n:Nat) (h:out.getLast?=some q) (hq:q.k=1∧q.kd=k):addK out k n=out.dropLast ++ [{ q with n:=q.n+n }]:=by
 simp only [addK,h,if_pos hq]
theorem addK_new {out:List Pt} {k:Kd} (n:Nat) (h:∀ q,out.getLast?=some q→¬ (q.k=1∧q.kd=k)):addK out k n=out ++ [keepP k n]:=by
 unfold addK
 cases hl:out.getLast? with
 | none=>rfl
 | some q=>simp only [if_neg (h q hl)]
theorem addK_add (out:List Pt) (k:Kd) (a b:Nat):addK (addK out k a) k b=addK out k (a+b):=by
 by_cases h:∃ q,out.getLast?=some q∧q.k=1∧q.kd=k
 ·obtain ⟨q,hl,hq⟩:=h
  rw [addK_some a hl hq,addK_some (a+b) hl hq,addK_some (q:={ q with n:=q.n+(a:Int) }) b (by simp) ⟨hq.1,hq.2⟩]
  simp
  omega
 ·have hn:∀ q,out.getLast?=some q→¬ (q.k=1∧q.kd=k):=fun q hl hq=>h ⟨q,hl,hq⟩
  rw [addK_new a hn,addK_new (a+b) hn,addK_some (k:=k) (q:=keepP k a) b (by simp) ⟨rfl,rfl⟩]
  simp [keepP]
theorem tid_puts (out:List Pt) (ps qs:List It) (c:Nat) (l:List Ac):tid out ps c (qs.map .put ++ l)=tid out (ps ++ qs) c l:=by
 induction qs generalizing ps with
 | nil=>simp
 | cons q qs ih=>simp [tid,ih]
theorem tid_cuts (out:List Pt) (ps:List It) (c d:Nat) (l:List Ac):tid out ps c (List.replicate d .cut ++ l)=tid out ps (c+d) l:=by
 induction d generalizing c with
 | zero=>simp
 | succ d ih=>simp only [List.replicate_succ,List.cons_append,tid];rw [ih,show c+1+d=c+(d+1) by omega]
theorem tid_keeps (out:List Pt) (ps:List It) (c n:Nat) (k:Kd) (l:List Ac):tid out ps c (List.replicate (n+1) (.keep k) ++ l)=tid (addK (flush out ps c) k (n+1)) [] 0 l:=by
 induction n generalizing out ps c with
 | zero=>rfl
 | succ n ih =>
  rw [List.replicate_succ,List.cons_append,tid,ih,flush_nil,addK_add,show 1+(n+1)=n+1+1 by omega]
theorem acts_flush (out:List Pt) (ps:List It) (c:Nat):acts (flush out ps c)=acts out ++ ps.map .put ++ List.replicate c .cut:=by
 unfold flush
 rw [acts_append,acts_append]
 congr 1
 ·congr 1
  by_cases h:ps=[]
  ·simp [h,acts_nil]
  ·simp [h,acts_one,actsP_put]
 ·by_cases h:c=0
  ·simp [h,acts_nil]
  ·simp [h,acts_one,actsP_cut]
theorem dropLast_snoc {α:Type} {l:List α} {q:α} (h:l.getLast?=some q):l=l.dropLast ++ [q]:=by
 obtain ⟨l',rfl⟩:=List.getLast?_eq_some_iff.1 h
 simp
theorem acts_addK (out:List Pt) (k:Kd) (n:Nat) (h:∀ p ∈ out,0≤p.n):acts (addK out k n)=acts out ++ List.replicate n (.keep k):=by
 unfold addK
 cases hl:out.getLast? with
 | none=>simp [acts_append,acts_one,actsP_keep]
 | some q =>
  by_cases hq:q.k=1∧q.kd=k
  ·simp only [if_pos hq]
   have e:=dropLast_snoc hl
   have hn:0≤q.n:=h q (by rw [e];simp)
   obtain ⟨h1,h2⟩:=hq
   have e2:acts out=acts out.dropLast ++ List.replicate q.n.toNat (.keep k):=by
    rw [e,acts_append,acts_one];simp [actsP,h1,h2]
   rw [e2,acts_append,acts_one,List.append_assoc,List.replicate_append_replicate]
   simp only [actsP,h1,if_true]
   congr 1
   have:(q.n+(n:Int)).toNat=q.n.toNat+n:=by omega
   rw [this]
   congr 1
   rw [← h2]
   rfl
  ·simp [if_neg hq,acts_append,acts_one,actsP_keep]
theorem addK_nn (out:List Pt) (k:Kd) (n:Nat) (h:∀ p ∈ out,0≤p.n):∀ p ∈ addK out k n,0≤p.n:=by
 unfold addK
 cases hl:out.getLast? with
 | none=>intro p hp;simp at hp;rcases hp with hp | rfl;exact h p hp;simp [keepP]
 | some q =>
  have e:=dropLast_snoc hl
  by_cases hq:q.k=1∧q.kd=k
  ·simp only [if_pos hq]
   intro p hp
   simp at hp
   rcases hp with hp | rfl
   ·exact h p (List.mem_of_mem_take (by rwa [List.dropLast_eq_take] at hp))
   ·have:=h q (by rw [e];simp)
    show 0≤q.n+(n:Int)
    omega
  ·intro p hp;simp [if_neg hq] at hp;rcases hp with hp | rfl;exact h p hp;simp [keepP]
theorem flush_nn (out:List Pt) (ps:List It) (c:Nat) (h:∀ p ∈ out,0≤p.n):∀ p ∈ flush out ps c,0≤p.n:=by
 intro p hp
 simp only [flush,List.append_assoc,List.mem_append] at hp
 rcases hp with hp | hp | hp
 ·exact h p hp
 ·split at hp <;> simp at hp;subst hp;simp [putP]
 ·split at hp <;> simp at hp;subst hp;simp [cutP]
theorem acts_tid (out:List Pt) (ps:List It) (c:Nat) (l:List Ac) (h:∀ p ∈ out,0≤p.n):acts (tid out ps c l)=acts out ++ nrm ps c l:=by
 induction l generalizing out ps c with
 | nil=>simp [tid,nrm,acts_flush]
 | cons a l ih =>
  cases a with
  | put x=>simp only [tid,nrm];exact ih _ _ _ h
  | cut=>simp only [tid,nrm];exact ih _ _ _ h
  | keep k =>
   simp only [tid,nrm]
   rw [ih _ _ _ (addK_nn _ _ _ (flush_nn _ _ _ h)),acts_addK _ _ _ (flush_nn _ _ _ h),acts_flush]
   simp
theorem acts_tidyA (l:List Ac):acts (tidyA l)=normA l:=by
 unfold tidyA;rw [acts_tid _ _ _ _ (by simp)];rfl
theorem addP_keep (o:List Pt) (c:Kd) (n:Nat) (h:0 < n):addP o (keepP c n)=addK o c n:=by
 unfold addP addK
 have h0:¬ ((keepP c n).k≠2∧(keepP c n).n=0∨(keepP c n).k=2∧(keepP c n).its=[]):=by simp [keepP];omega
 simp only [if_neg h0]
 cases o.getLast? with
 | none=>rfl
 | some q =>
  have e:(alikeP q (keepP c n)=true)↔(q.k=1∧q.kd=c):=by
   obtain ⟨set,clr,to,l⟩:=c
   simp [alikeP,keepP,Pt.kd,and_assoc]
  by_cases hq:q.k=1∧q.kd=c
  ·simp only [if_pos hq,if_pos (e.2 hq)]
   simp [keepP]
  ·simp only [if_neg hq,if_neg (fun h=>hq (e.1 h))]
def EndsK (out:List Pt):Prop:=∀ q,out.getLast?=some q→q.k=1
theorem addP_flush (out:List Pt) (ps:List It) (c:Nat) (h:EndsK out):addP (addP out (putP ps)) (cutP c)=flush out ps c:=by
 have h1:addP out (putP ps)=out ++ (if ps=[] then [] else [putP ps]):=by
  by_cases hp:ps=[]
  ·simp [hp,addP_put_nil]
  ·simp only [if_neg hp]
   unfold addP
   have h0:¬ ((putP ps).k≠2∧(putP ps).n=0∨(putP ps).k=2∧(putP ps).its=[]):=by simp [putP,hp]
   simp only [if_neg h0]
   cases hl:out.getLast? with
   | none=>rfl
   | some q =>
    have hk:=h q hl
    have:¬ (alikeP q (putP ps)=true):=by simp [alikeP,putP,hk]
    simp only [if_neg this]
 rw [h1]
 unfold flush
 by_cases hc:c=0
 ·subst hc;simp [addP_cut_zero]
 ·simp only [if_neg hc]
  unfold addP
  have h0:¬ ((cutP c).k≠2∧(cutP c).n=0∨(cutP c).k=2∧(cutP c).its=[]):=by simp [cutP];omega
  simp only [if_neg h0]
  by_cases hp:ps=[]
  ·simp only [hp,if_true,List.append_nil]
   cases hl:out.getLast? with
   | none=>rfl
   | some q =>
    have hk:=h q hl
    have:¬ (alikeP q (cutP c)=true):=by simp [alikeP,cutP,hk]
    simp only [if_neg this]
  ·simp only [if_neg hp,List.getLast?_append,List.getLast?_singleton,Option.some_or]
   have:¬ (alikeP (putP ps) (cutP c)=true):=by simp [alikeP,cutP,putP]
   simp only [if_neg this]
theorem endsK_addK (out:List Pt) (k:Kd) (n:Nat):EndsK (addK out k n):=by
 intro q hq
 unfold addK at hq
 cases hl:out.getLast? with
 | none=>simp [hl] at hq;subst hq;rfl
 | some p =>
  by_cases hp:p.k=1∧p.kd=k
  ·simp only [hl,if_pos hp] at hq;simp at hq;subst hq;exact hp.1
  ·simp [hl,if_neg hp] at hq;subst hq;rfl
theorem mk2_tid (L:List Pt) (out:List Pt) (ps:List It) (c:Nat) (ho:EndsK out) (h:∀ p ∈ L,Fm p) (hk:∀ p ∈ L,p.k=1→0 < p.n):mk2 out ps c L=tid out ps c (acts L):=by
 induction L generalizing out ps c with
 | nil=>simp only [mk2,acts_nil,tid];exact addP_flush out ps c ho
 | cons p L ih =>
  have hL:∀ q ∈ L,Fm q:=fun q hq=>h q (by simp [hq])
  have hkL:∀ q ∈ L,q.k=1→0 < q.n:=fun q hq=>hk q (by simp [hq])
  rw [acts_cons]
  rcases h p (by simp) with ⟨k,n,hn,rfl⟩ | ⟨l,rfl⟩ | ⟨n,hn,rfl⟩
  ·have hn1:0 < n:=hk (keepP k n) (by simp) rfl
   obtain ⟨m,rfl⟩:∃ m:Nat,n=((m+1:Nat):Int):=⟨(n - 1).toNat,by omega⟩
   rw [actsP_keep,Int.toNat_natCast,tid_keeps]
   have e:(keepP k ((m+1:Nat):Int)).k=1:=rfl
   rw [mk2,if_pos e,addP_flush out ps c ho,addP_keep _ _ _ (by omega)]
   exact ih _ [] 0 (endsK_addK _ _ _) hL hkL
  ·rw [actsP_put,tid_puts]
   have e:¬ (putP l).k=1:=by simp [putP]
   rw [mk2,if_neg e]
   have:=ih out (ps ++ l) c ho hL hkL
   simpa [putP] using this
  ·rw [actsP_cut,tid_cuts]
   have e:¬ (cutP n).k=1:=by simp [cutP]
   rw [mk2,if_neg e]
   have:=ih out ps (c+n.toNat) ho hL hkL
   have e2:(c:Int)+n=((c+n.toNat:Nat):Int):=by omega
   simp only [cutP,List.append_nil]
   rw [e2]
   exact this
theorem madeP_tidy (L:List Pt) (h:∀ p ∈ L,Fm p) (hk:∀ p ∈ L,p.k=1→0 < p.n):madeP L=tidyA (acts L):=
 mk2_tid L [] [] 0 (fun q hq=>by simp at hq) h hk
end Go.Mh
namespace Go.Mh
def and4 (a b:Fin 4):Fin 4:=⟨(a.val &&& b.val) % 4,Nat.mod_lt _ (by decide)⟩
def or4 (a b:Fin 4):Fin 4:=⟨(a.val ||| b.val) % 4,Nat.mod_lt _ (by decide)⟩
def not4 (a b:Fin 4):Fin 4:=⟨(a.val - (a.val &&& b.val)) % 4,Nat.mod_lt _ (by decide)⟩
theorem band4:∀ a b:Fin 4,band (a.val:Int) (b.val:Int)=((and4 a b).val:Int):=by decide
theorem bor4:∀ a b:Fin 4,bor (a.val:Int) (b.val:Int)=((or4 a b).val:Int):=by decide
theorem bnot4:∀ a b:Fin 4,bnot (a.val:Int) (b.val:Int)=((not4 a b).val:Int):=by decide
theorem m4_join:∀ m sc ss tc ts:Fin 4,or4 (not4 (or4 (not4 m sc) ss) tc) ts=or4 (not4 m (or4 (not4 sc ts) tc)) (or4 (not4 ss tc) ts):=by decide +kernel
theorem m4_disj:∀ ss sc ts tc:Fin 4,and4 ss sc=0→and4 ts tc=0→and4 (or4 (not4 ss tc) ts) (or4 (not4 sc ts) tc)=0:=by decide +kernel
structure Kd.Ok (c:Kd):Prop where
 s0:0≤c.set
 s3:c.set≤3
 c0:0≤c.clr
 c3:c.clr≤3
 no:band c.set c.clr=0
 ln:c.l≠[]→c.to=true∧may c.l=true
theorem Kd.Ok.fin {c:Kd} (h:c.Ok):∃ s z:Fin 4,c.set=(s.val:Int)∧c.clr=(z.val:Int)∧and4 s z=0:=by
 obtain ⟨s,hs⟩:=small4 h.s0 h.s3
 obtain ⟨z,hz⟩:=small4 h.c0 h.c3
 refine ⟨s,z,hs,hz, ?_⟩
 have:=h.no
 rw [hs,hz,band4] at this
 exact Fin.ext (by simpa using this)
def overK (t s:Kd):Kd:=⟨bnot t.set (bor s.set s.clr),bnot t.clr (bor s.set s.clr),if s.to=true then false else t.to,if s.to=true then [] else t.l⟩
def bothK (s t:Kd):Kd:=⟨bor (bnot s.set t.clr) t.set,bor (bnot s.clr t.set) t.clr,if t.to=true then true else s.to,if t.to=true then t.l else s.l⟩
theorem fin4_ok (a:Fin 4):0≤(a.val:Int)∧(a.val:Int)≤3:=by omega
theorem Kd.Ok.of {c:Kd} {s z:Fin 4} (hs:c.set=(s.val:Int)) (hz:c.clr=(z.val:Int)) (h:and4 s z=0) (ln:c.l≠[]→c.to=true∧may c.l=true):c.Ok:=
 ⟨by rw [hs];exact (fin4_ok s).1,by rw [hs];exact (fin4_ok s).2,by rw [hz];exact (fin4_ok z).1,by rw [hz];exact (fin4_ok z).2,by rw [hs,hz,band4,h];rfl,ln⟩
theorem bothK_ok {s t:Kd} (hs:s.Ok) (ht:t.Ok):(bothK s t).Ok:=by
 obtain ⟨a,b,e1,e2,h1⟩:=hs.fin
 obtain ⟨c,d,e3,e4,h2⟩:=ht.fin
 refine Kd.Ok.of (s:=or4 (not4 a d) c) (z:=or4 (not4 b c) d) ?_ ?_ (m4_disj _ _ _ _ h1 h2) ?_
 ·simp only [bothK,e1,e3,e4];rw [bnot4,bor4]
 ·simp only [bothK,e2,e3,e4];rw [bnot4,bor4]
 ·simp only [bothK]
  intro h
  by_cases ht2:t.to=true
  ·simp only [if_pos ht2] at h ⊢;exact ⟨trivial,(ht.ln h).2⟩
  ·simp only [if_neg ht2] at h ⊢;exact hs.ln h
def It.Mk (x:It):Prop:=0≤x.m∧x.m≤3
theorem markI_mk {x:It} {c:Kd} (hx:x.Mk) (hc:c.Ok):(markI x c).Mk:=by
 obtain ⟨m,hm⟩:=small4 hx.1 hx.2
 obtain ⟨a,b,e1,e2,_⟩:=hc.fin
 unfold It.Mk markI
 simp only [hm,e1,e2,bnot4,bor4]
 exact fin4_ok _
theorem mark_join {x:It} {s t:Kd} (hx:x.Mk) (hs:s.Ok) (ht:t.Ok):markI (markI x s) t=markI x (bothK s t):=by
 obtain ⟨m,hm⟩:=small4 hx.1 hx.2
 obtain ⟨a,b,e1,e2,h1⟩:=hs.fin
 obtain ⟨c,d,e3,e4,h2⟩:=ht.fin
 simp only [markI,bothK,hm,e1,e2,e3,e4,bnot4,bor4]
 congr 1
 ·rw [m4_join]
 ·by_cases h:s.to=true <;> by_cases h':(x.c.toNat:Int)=10 <;> by_cases h'':t.to=true <;> simp [h,h',h'']
theorem markI_item {x:It} {c:Kd} (hx:chkItem x=0) (hc:c.Ok):chkItem (markI x c)=0:=by
 have hmk:x.Mk:=by
  unfold chkItem at hx
  split at hx;· simp at hx
  split at hx;· simp at hx
  rename_i h;unfold It.Mk;omega
 have hm:=markI_mk hmk hc
 unfold chkItem at hx ⊢
 unfold It.Mk at hm
 split at hx;· simp at hx
 rename_i h1
 split at hx;· simp at hx
 split at hx;· simp at hx
 rename_i h3
 have e:(markI x c).c=x.c:=rfl
 rw [e,if_neg h1,if_neg (by omega),if_neg]
 rintro ⟨hl,h⟩
 by_cases h10:(x.c.toNat:Int)=10
 ·have e2:(markI x c).l=x.l:=by simp [markI,h10]
  rw [e2] at hl h
  exact h3 ⟨hl,Or.inl h10⟩
 ·by_cases ht:c.to=true
  ·have e2:(markI x c).l=c.l:=by simp [markI,h10,ht]
   rw [e2] at hl h
   have:=(hc.ln hl).2
   simp [this,h10] at h
  ·have e2:(markI x c).l=x.l:=by simp [markI,ht]
   rw [e2] at hl h
   exact h3 ⟨hl,h⟩
def doA (d:List It):List Ac→List It
 | []=>[]
 | .put x :: l=>x :: doA d l
 | .keep c :: l=>(d.take 1).map (markI · c) ++ doA d.tail l
 | .cut :: l=>doA d.tail l
def frm:List Ac→Nat
 | []=>0
 | .put _ :: l=>frm l
 | _ :: l=>frm l+1
def too:List Ac→Nat
 | []=>0
 | .cut :: l=>too l
 | _ :: l=>too l+1
def AcOk:Ac→Prop
 | .keep c=>c.Ok
 | .put x=>chkItem x=0
 | .cut=>True
theorem frm_append (a b:List Ac):frm (a ++ b)=frm a+frm b:=by
 induction a with
 | nil=>simp [frm]
 | cons x a ih=>cases x <;> simp [frm,ih] <;> omega
theorem too_append (a b:List Ac):too (a ++ b)=too a+too b:=by
 induction a with
 | nil=>simp [too]
 | cons x a ih=>cases x <;> simp [too,ih] <;> omega
theorem frm_puts (l:List It):frm (l.map .put)=0:=by induction l <;> simp [frm, *]
theorem too_puts (l:List It):too (l.map .put)=l.length:=by induction l <;> simp [too, *]
theorem frm_cuts (n:Nat):frm (List.replicate n .cut)=n:=by induction n <;> simp [frm,List.replicate_succ, *]
theorem too_cuts (n:Nat):too (List.replicate n .cut)=0:=by induction n <;> simp [too,List.replicate_succ, *]
theorem frm_keeps (n:Nat) (c:Kd):frm (List.replicate n (.keep c))=n:=by induction n <;> simp [frm,List.replicate_succ, *]
theorem too_keeps (n:Nat) (c:Kd):too (List.replicate n (.keep c))=n:=by induction n <;> simp [too,List.replicate_succ, *]
theorem doA_puts (d:List It) (ps:List It) (l:List Ac):doA d (ps.map .put ++ l)=ps ++ doA d l:=by
 induction ps with
 | nil=>rfl
 | cons p ps ih=>simp [doA,ih]
theorem doA_cuts (d:List It) (n:Nat) (l:List Ac):doA d (List.replicate n .cut ++ l)=doA (d.drop n) l:=by
 induction n generalizing d with
 | zero=>rfl
 | succ n ih=>simp only [List.replicate_succ,List.cons_append,doA];rw [ih,List.drop_tail]
theorem doA_keeps (d:List It) (n:Nat) (c:Kd) (l:List Ac):doA d (List.replicate n (.keep c) ++ l)=(d.take n).map (markI · c) ++ doA (d.drop n) l:=by
 induction n generalizing d with
 | zero=>simp
 | succ n ih =>
  simp only [List.replicate_succ,List.cons_append,doA]
  rw [ih]
  cases d with
  | nil=>simp
  | cons x d=>simp
theorem doA_nrm (d:List It) (ps:List It) (c:Nat) (l:List Ac):doA d (nrm ps c l)=ps ++ doA (d.drop c) l:=by
 induction l generalizing d ps c with
 | nil=>have:=doA_puts d ps (List.replicate c .cut ++ []);have h2:=doA_cuts d c [];simp only [List.append_nil] at this h2;simp [nrm,this,h2,doA]
 | cons a l ih =>
  cases a with
  | put x=>simp [nrm,doA,ih]
  | cut=>simp only [nrm,doA];rw [ih];simp
  | keep k =>
   simp only [nrm,List.append_assoc]
   rw [doA_puts,doA_cuts]
   simp only [doA]
   rw [ih]
   simp
theorem doA_norm (d:List It) (l:List Ac):doA d (normA l)=doA d l:=by unfold normA;rw [doA_nrm];simp
theorem frm_nrm (ps:List It) (c:Nat) (l:List Ac):frm (nrm ps c l)=c+frm l:=by
 induction l generalizing ps c with
 | nil=>simp [nrm,frm_append,frm_puts,frm_cuts,frm]
 | cons a l ih=>cases a <;> simp [nrm,frm,ih,frm_append,frm_puts,frm_cuts] <;> omega
theorem too_nrm (ps:List It) (c:Nat) (l:List Ac):too (nrm ps c l)=ps.length+too l:=by
 induction l generalizing ps c with
 | nil=>simp [nrm,too_append,too_puts,too_cuts,too]
 | cons a l ih=>cases a <;> simp [nrm,too,ih,too_append,too_puts,too_cuts] <;> omega
theorem frm_norm (l:List Ac):frm (normA l)=frm l:=by simp [normA,frm_nrm]
theorem too_norm (l:List Ac):too (normA l)=too l:=by simp [normA,too_nrm]
theorem doA_len (d:List It) (l:List Ac) (h:frm l≤d.length):(doA d l).length=too l:=by
 induction l generalizing d with
 | nil=>rfl
 | cons a l ih =>
  cases a with
  | put x=>simp only [frm] at h;simp [doA,too,ih d h]
  | cut=>simp only [frm] at h;simp only [doA,too];exact ih _ (by simp;omega)
  | keep c =>
   simp only [frm] at h
   simp only [doA,too,List.length_append,List.length_map,List.length_take]
   rw [ih _ (by simp;omega)]
   omega
def keep0:Ac:=.keep kd0
def turn0:List Ac→List Ac × List Ac
 | .put y :: b=>(keep0 :: (turn0 b).1,.put y :: (turn0 b).2)
 | _=>([],[])
def turnS (s:Ac) (f:List Ac→List Ac × List Ac):List Ac→List Ac × List Ac
 | []=>([],[])
 | .put y :: b=>(keep0 :: (turnS s f b).1,.put y :: (turnS s f b).2)
 | .keep t :: b=>match s with
  | .keep u=>(.keep u :: (f b).1,.keep (overK t u) :: (f b).2)
  | _=>(.cut :: (f b).1,(f b).2)
 | .cut :: b=>match s with
  | .keep _=>((f b).1,.cut :: (f b).2)
  | _=>f b
def turnA:List Ac→List Ac→List Ac × List Ac
 | [],b=>turn0 b
 | .put x :: a,b=>(.put x :: (turnA a b).1,keep0 :: (turnA a b).2)
 | s :: a,b=>turnS s (turnA a) b
theorem turn_p (x:It) (a b:List Ac):turnA (.put x :: a) b=(.put x :: (turnA a b).1,keep0 :: (turnA a b).2):=rfl
theorem turn_sp (s:Ac) (hs:∀ x,s≠.put x) (y:It) (a b:List Ac):turnA (s :: a) (.put y :: b)=(keep0 :: (turnA (s :: a) b).1,.put y :: (turnA (s :: a) b).2):=by
 cases s with
 | put x=>exact absurd rfl (hs x)
 | keep u=>rfl
 | cut=>rfl
theorem turn_kk (u t:Kd) (a b:List Ac):turnA (.keep u :: a) (.keep t :: b)=(.keep u :: (turnA a b).1,.keep (overK t u) :: (turnA a b).2):=rfl
theorem turn_ck (t:Kd) (a b:List Ac):turnA (.cut :: a) (.keep t :: b)=(.cut :: (turnA a b).1,(turnA a b).2):=rfl
theorem turn_kc (u:Kd) (a b:List Ac):turnA (.keep u :: a) (.cut :: b)=((turnA a b).1,.cut :: (turnA a b).2):=rfl
theorem turn_cc (a b:List Ac):turnA (.cut :: a) (.cut :: b)=turnA a b:=rfl
theorem turn_ind {P:List Ac→List Ac→Prop} (h0:P [] []) (hp:∀ x a b,frm a=frm b→P a b→P (.put x :: a) b)
  (hq:∀ y a b,(∀ x a',a≠.put x :: a')→frm a=frm b→P a b→P a (.put y :: b))
  (hkk:∀ u t a b,frm a=frm b→P a b→P (.keep u :: a) (.keep t :: b)) (hck:∀ t a b,frm a=frm b→P a b→P (.cut :: a) (.keep t :: b))
  (hkc:∀ u a b,frm a=frm b→P a b→P (.keep u :: a) (.cut :: b)) (hcc:∀ a b,frm a=frm b→P a b→P (.cut :: a) (.cut :: b)) :
  ∀ a b,frm a=frm b→P a b:=by
 intro a
 induction a with
 | nil =>
  intro b
  induction b with
  | nil=>intro _;exact h0
  | cons t b ih =>
   intro h
   cases t with
   | put y=>exact hq y [] b (by simp) (by simpa [frm] using h) (ih (by simpa [frm] using h))
   | keep t=>simp [frm] at h
   | cut=>simp [frm] at h
 | cons s a iha =>
  cases s with
  | put x=>intro b h;exact hp x a b (by simpa [frm] using h) (iha b (by simpa [frm] using h))
  | keep u =>
   intro b
   induction b with
   | nil=>intro h;simp [frm] at h
   | cons t b ih =>
    intro h
    cases t with
    | put y=>exact hq y _ b (by simp) (by simpa [frm] using h) (ih (by simpa [frm] using h))
    | keep t=>exact hkk u t a b (by simpa [frm] using h) (iha b (by simpa [frm] using h))
    | cut=>exact hkc u a b (by simpa [frm] using h) (iha b (by simpa [frm] using h))
  | cut =>
   intro b
   induction b with
   | nil=>intro h;simp [frm] at h
   | cons t b ih =>
    intro h
    cases t with
    | put y=>exact hq y _ b (by simp) (by simpa [frm] using h) (ih (by simpa [frm] using h))
    | keep t=>exact hck t a b (by simpa [frm] using h) (iha b (by simpa [frm] using h))
    | cut=>exact hcc a b (by simpa [frm] using h) (iha b (by simpa [frm] using h))
theorem turn_q {y:It} {a b:List Ac} (h:∀ x a',a≠.put x :: a'):turnA a (.put y :: b)=(keep0 :: (turnA a b).1,.put y :: (turnA a b).2):=by
 cases a with
 | nil=>rfl
 | cons s a=>exact turn_sp s (fun x e=>h x a (by rw [e])) y a b
end Go.Mh
namespace Go.Mh
def joinS (s:Ac) (f:List Ac→List Ac):List Ac→List Ac
 | []=>f []
 | .put y :: b=>.put y :: joinS s f b
 | .keep t :: b=>match s with
  | .keep u=>.keep (bothK u t) :: f b
  | .put x=>.put (markI x t) :: f b
  | .cut=>f b
 | .cut :: b=>match s with
  | .keep _=>.cut :: f b
  | _=>f b
def joinA:List Ac→List Ac→List Ac
 | [],b=>b
 | .cut :: a,b=>.cut :: joinA a b
 | s :: a,b=>joinS s (joinA a) b
theorem join_c (a b:List Ac):joinA (.cut :: a) b=.cut :: joinA a b:=rfl
theorem join_kk (u t:Kd) (a b:List Ac):joinA (.keep u :: a) (.keep t :: b)=.keep (bothK u t) :: joinA a b:=rfl
theorem join_kc (u:Kd) (a b:List Ac):joinA (.keep u :: a) (.cut :: b)=.cut :: joinA a b:=rfl
theorem join_pk (x:It) (t:Kd) (a b:List Ac):joinA (.put x :: a) (.keep t :: b)=.put (markI x t) :: joinA a b:=rfl
theorem join_pc (x:It) (a b:List Ac):joinA (.put x :: a) (.cut :: b)=joinA a b:=rfl
theorem join_q {y:It} {a b:List Ac} (h:∀ a',a≠.cut :: a'):joinA a (.put y :: b)=.put y :: joinA a b:=by
 cases a with
 | nil=>rfl
 | cons s a=>cases s with
  | put x=>rfl
  | keep u=>rfl
  | cut=>exact absurd rfl (h a)
theorem join_ind {P:List Ac→List Ac→Prop} (h0:P [] []) (hc:∀ a b,too a=frm b→P a b→P (.cut :: a) b)
  (hq:∀ y a b,(∀ a',a≠.cut :: a')→too a=frm b→P a b→P a (.put y :: b))
  (hkk:∀ u t a b,too a=frm b→P a b→P (.keep u :: a) (.keep t :: b)) (hkc:∀ u a b,too a=frm b→P a b→P (.keep u :: a) (.cut :: b))
  (hpk:∀ x t a b,too a=frm b→P a b→P (.put x :: a) (.keep t :: b)) (hpc:∀ x a b,too a=frm b→P a b→P (.put x :: a) (.cut :: b)) :
  ∀ a b,too a=frm b→P a b:=by
 intro a
 induction a with
 | nil =>
  intro b
  induction b with
  | nil=>intro _;exact h0
  | cons t b ih =>
   intro h
   cases t with
   | put y=>exact hq y [] b (by simp) (by simpa [frm] using h) (ih (by simpa [frm] using h))
   | keep t=>simp [frm,too] at h
   | cut=>simp [frm,too] at h
 | cons s a iha =>
  cases s with
  | cut=>intro b h;exact hc a b (by simpa [too] using h) (iha b (by simpa [too] using h))
  | keep u =>
   intro b
   induction b with
   | nil=>intro h;simp [frm,too] at h
   | cons t b ih =>
    intro h
    cases t with
    | put y=>exact hq y _ b (by simp) (by simpa [frm] using h) (ih (by simpa [frm] using h))
    | keep t=>exact hkk u t a b (by simpa [frm,too] using h) (iha b (by simpa [frm,too] using h))
    | cut=>exact hkc u a b (by simpa [frm,too] using h) (iha b (by simpa [frm,too] using h))
  | put x =>
   intro b
   induction b with
   | nil=>intro h;simp [frm,too] at h
   | cons t b ih =>
    intro h
    cases t with
    | put y=>exact hq y _ b (by simp) (by simpa [frm] using h) (ih (by simpa [frm] using h))
    | keep t=>exact hpk x t a b (by simpa [frm,too] using h) (iha b (by simpa [frm,too] using h))
    | cut=>exact hpc x a b (by simpa [frm,too] using h) (iha b (by simpa [frm,too] using h))
theorem join_frm:∀ a b,too a=frm b→frm (joinA a b)=frm a∧too (joinA a b)=too b:=by
 refine join_ind ⟨rfl,rfl⟩ ?_ ?_ ?_ ?_ ?_ ?_
 ·intro a b _ h;rw [join_c];simp [frm,too,h]
 ·intro y a b hn _ h;rw [join_q hn];simp [frm,too,h]
 ·intro u t a b _ h;rw [join_kk];simp [frm,too,h]
 ·intro u a b _ h;rw [join_kc];simp [frm,too,h]
 ·intro x t a b _ h;rw [join_pk];simp [frm,too,h]
 ·intro x a b _ h;rw [join_pc];simp [frm,too,h]
theorem item_mk {x:It} (hx:chkItem x=0):x.Mk:=by
 unfold chkItem at hx
 split at hx;· simp at hx
 split at hx;· simp at hx
 rename_i h;unfold It.Mk;omega
theorem join_ok:∀ a b,too a=frm b→(∀ x ∈ a,AcOk x)→(∀ x ∈ b,AcOk x)→∀ x ∈ joinA a b,AcOk x:=by
 refine join_ind (fun _ h=>h) ?_ ?_ ?_ ?_ ?_ ?_
 ·intro a b _ h ha hb x hx
  rw [join_c] at hx
  rcases List.mem_cons.1 hx with rfl | hx
  ·trivial
  ·exact h (fun y hy=>ha y (List.mem_cons_of_mem _ hy)) hb x hx
 ·intro y a b hn _ h ha hb x hx
  rw [join_q hn] at hx
  rcases List.mem_cons.1 hx with rfl | hx
  ·exact hb _ (List.mem_cons_self ..)
  ·exact h ha (fun y hy=>hb y (List.mem_cons_of_mem _ hy)) x hx
 ·intro u t a b _ h ha hb x hx
  rw [join_kk] at hx
  rcases List.mem_cons.1 hx with rfl | hx
  ·exact bothK_ok (ha (.keep u) (List.mem_cons_self ..)) (hb (.keep t) (List.mem_cons_self ..))
  ·exact h (fun y hy=>ha y (List.mem_cons_of_mem _ hy)) (fun y hy=>hb y (List.mem_cons_of_mem _ hy)) x hx
 ·intro u a b _ h ha hb x hx
  rw [join_kc] at hx
  rcases List.mem_cons.1 hx with rfl | hx
  ·trivial
  ·exact h (fun y hy=>ha y (List.mem_cons_of_mem _ hy)) (fun y hy=>hb y (List.mem_cons_of_mem _ hy)) x hx
 ·intro z t a b _ h ha hb x hx
  rw [join_pk] at hx
  rcases List.mem_cons.1 hx with rfl | hx
  ·exact markI_item (ha (.put z) (List.mem_cons_self ..)) (hb (.keep t) (List.mem_cons_self ..))
  ·exact h (fun y hy=>ha y (List.mem_cons_of_mem _ hy)) (fun y hy=>hb y (List.mem_cons_of_mem _ hy)) x hx
 ·intro z a b _ h ha hb x hx
  rw [join_pc] at hx
  exact h (fun y hy=>ha y (List.mem_cons_of_mem _ hy)) (fun y hy=>hb y (List.mem_cons_of_mem _ hy)) x hx
theorem join_does:∀ a b,too a=frm b→(∀ x ∈ a,AcOk x)→(∀ x ∈ b,AcOk x)→∀ d:List It,d.length=frm a→(∀ x ∈ d,x.Mk)→doA d (joinA a b)=doA (doA d a) b:=by
 refine join_ind ?_ ?_ ?_ ?_ ?_ ?_ ?_
 ·intro _ _ d hd _;cases d with
  | nil=>rfl
  | cons i d=>simp [frm] at hd
 ·intro a b _ h ha hb d hd hm
  rw [join_c]
  have ih:=h (fun y hy=>ha y (List.mem_cons_of_mem _ hy)) hb d.tail (by simp [hd,frm]) (fun x hx=>hm x (List.mem_of_mem_tail hx))
  simp [doA,ih]
 ·intro y a b hn _ h ha hb d hd hm
  rw [join_q hn]
  have ih:=h ha (fun y hy=>hb y (List.mem_cons_of_mem _ hy)) d hd hm
  simp [doA,ih]
 ·intro u t a b _ h ha hb d hd hm
  rw [join_kk]
  cases d with
  | nil=>simp [frm] at hd
  | cons i d =>
   have ih:=h (fun y hy=>ha y (List.mem_cons_of_mem _ hy)) (fun y hy=>hb y (List.mem_cons_of_mem _ hy)) d (by simpa [frm] using hd) (fun x hx=>hm x (List.mem_cons_of_mem _ hx))
   simp [doA,ih,mark_join (hm i (List.mem_cons_self ..)) (ha (.keep u) (List.mem_cons_self ..)) (hb (.keep t) (List.mem_cons_self ..))]
 ·intro u a b _ h ha hb d hd hm
  rw [join_kc]
  cases d with
  | nil=>simp [frm] at hd
  | cons i d =>
   have ih:=h (fun y hy=>ha y (List.mem_cons_of_mem _ hy)) (fun y hy=>hb y (List.mem_cons_of_mem _ hy)) d (by simpa [frm] using hd) (fun x hx=>hm x (List.mem_cons_of_mem _ hx))
   simp [doA,ih]
 ·intro z t a b _ h ha hb d hd hm
  rw [join_pk]
  have ih:=h (fun y hy=>ha y (List.mem_cons_of_mem _ hy)) (fun y hy=>hb y (List.mem_cons_of_mem _ hy)) d (by simpa [frm] using hd) hm
  simp [doA,ih]
 ·intro z a b _ h ha hb d hd hm
  rw [join_pc]
  have ih:=h (fun y hy=>ha y (List.mem_cons_of_mem _ hy)) (fun y hy=>hb y (List.mem_cons_of_mem _ hy)) d (by simpa [frm] using hd) hm
  simp [doA,ih]
end Go.Mh
namespace Go.Mh
def EndA (l:List Ac):Prop:=∃ l' c,l=l' ++ [.keep c]
theorem EndA.ne {l:List Ac} (h:EndA l):l≠[]:=by obtain ⟨l',c,rfl⟩:=h;simp
theorem EndA.cons {l:List Ac} (h:EndA l) (a:Ac):EndA (a :: l):=by obtain ⟨l',c,rfl⟩:=h;exact ⟨a :: l',c,rfl⟩
theorem EndA.frm {l:List Ac} (h:EndA l):0 < Mh.frm l:=by obtain ⟨l',c,rfl⟩:=h;simp [frm_append,Mh.frm]
theorem EndA.too {l:List Ac} (h:EndA l):0 < Mh.too l:=by obtain ⟨l',c,rfl⟩:=h;simp [too_append,Mh.too]
theorem EndA.tail {a:Ac} {l:List Ac} (h:EndA (a :: l)) (hl:l≠[]):EndA l:=by
 obtain ⟨l',c,e⟩:=h
 cases l' with
 | nil=>simp at e;exact absurd e.2 hl
 | cons b l'=>simp at e;exact ⟨l',c,e.2⟩
theorem EndA.keep1 (c:Kd):EndA [.keep c]:=⟨[],c,rfl⟩
theorem EndA.not_put {x:It} {l:List Ac} (h:EndA (.put x :: l)):EndA l:=by
 refine h.tail ?_
 rintro rfl
 obtain ⟨l',c,e⟩:=h
 cases l' with
 | nil=>simp at e
 | cons b l'=>simp at e
theorem EndA.not_cut {l:List Ac} (h:EndA (.cut :: l)):EndA l:=by
 refine h.tail ?_
 rintro rfl
 obtain ⟨l',c,e⟩:=h
 cases l' with
 | nil=>simp at e
 | cons b l'=>simp at e
theorem EndA.keep_or {c:Kd} {l:List Ac} (h:EndA (.keep c :: l)):l=[]∨EndA l:=by
 by_cases hl:l=[]
 ·exact Or.inl hl
 ·exact Or.inr (h.tail hl)
theorem endA_append {m:List Ac} (h:EndA m) (l:List Ac):EndA (l ++ m):=by obtain ⟨l',c,rfl⟩:=h;exact ⟨l ++ l',c,by simp⟩
theorem turn_end:∀ a b,frm a=frm b→EndA a→EndA b→EndA (turnA a b).1∧EndA (turnA a b).2:=by
 refine turn_ind ?_ ?_ ?_ ?_ ?_ ?_ ?_
 ·intro h _;exact absurd rfl h.ne
 ·intro x a b _ h ha hb;rw [turn_p];obtain ⟨h1,h2⟩:=h ha.not_put hb;exact ⟨h1.cons _,h2.cons _⟩
 ·intro y a b hn _ h ha hb;rw [turn_q hn];obtain ⟨h1,h2⟩:=h ha hb.not_put;exact ⟨h1.cons _,h2.cons _⟩
 ·intro u t a b hf h ha hb
  rw [turn_kk]
  rcases ha.keep_or with rfl | ha'
  ·rcases hb.keep_or with rfl | hb'
   ·exact ⟨EndA.keep1 _,EndA.keep1 _⟩
   ·have:=hb'.frm;simp [frm] at hf;omega
  ·rcases hb.keep_or with rfl | hb'
   ·have:=ha'.frm;simp [frm] at hf;omega
   ·obtain ⟨h1,h2⟩:=h ha' hb';exact ⟨h1.cons _,h2.cons _⟩
 ·intro t a b hf h ha hb
  rw [turn_ck]
  have ha':=ha.not_cut
  rcases hb.keep_or with rfl | hb'
  ·have:=ha'.frm;simp [frm] at hf;omega
  ·obtain ⟨h1,h2⟩:=h ha' hb';exact ⟨h1.cons _,h2⟩
 ·intro u a b hf h ha hb
  rw [turn_kc]
  have hb':=hb.not_cut
  rcases ha.keep_or with rfl | ha'
  ·have:=hb'.frm;simp [frm] at hf;omega
  ·obtain ⟨h1,h2⟩:=h ha' hb';exact ⟨h1,h2.cons _⟩
 ·intro a b hf h ha hb
  rw [turn_cc]
  exact h ha.not_cut hb.not_cut
theorem join_end:∀ a b,too a=frm b→EndA a→EndA b→EndA (joinA a b):=by
 refine join_ind ?_ ?_ ?_ ?_ ?_ ?_ ?_
 ·intro h _;exact absurd rfl h.ne
 ·intro a b _ h ha hb;rw [join_c];exact (h ha.not_cut hb).cons _
 ·intro y a b hn _ h ha hb;rw [join_q hn];exact (h ha hb.not_put).cons _
 ·intro u t a b hf h ha hb
  rw [join_kk]
  rcases ha.keep_or with rfl | ha'
  ·rcases hb.keep_or with rfl | hb'
   ·exact EndA.keep1 _
   ·have:=hb'.frm;simp [too] at hf;omega
  ·rcases hb.keep_or with rfl | hb'
   ·have:=ha'.too;simp [frm] at hf;omega
   ·exact (h ha' hb').cons _
 ·intro u a b hf h ha hb
  rw [join_kc]
  have hb':=hb.not_cut
  rcases ha.keep_or with rfl | ha'
  ·have:=hb'.frm;simp [too] at hf;omega
  ·exact (h ha' hb').cons _
 ·intro x t a b hf h ha hb
  rw [join_pk]
  have ha':=ha.not_put
  rcases hb.keep_or with rfl | hb'
  ·have:=ha'.too;simp [frm] at hf;omega
  ·exact (h ha' hb').cons _
 ·intro x a b hf h ha hb
  rw [join_pc]
  exact h ha.not_put hb.not_cut
def TP (p:Pt):Prop:=(∃ c n,0 < n∧c.Ok∧p=keepP c n)∨(∃ l,l≠[]∧(∀ x ∈ l,chkItem x=0)∧p=putP l)∨(∃ n,0 < n∧p=cutP n)
theorem TP.fm {p:Pt} (h:TP p):Fm p:=by
 rcases h with ⟨c,n,hn,_,rfl⟩ | ⟨l,_,_,rfl⟩ | ⟨n,hn,rfl⟩
 ·exact Or.inl ⟨c,n,by omega,rfl⟩
 ·exact Or.inr (Or.inl ⟨l,rfl⟩)
 ·exact Or.inr (Or.inr ⟨n,by omega,rfl⟩)
theorem chkItems_all {l:List It} (h:chkItems l=0):∀ x ∈ l,chkItem x=0:=by
 induction l with
 | nil=>intro x hx;simp at hx
 | cons y l ih =>
  simp only [chkItems] at h
  split at h
  ·rename_i h0
   intro x hx
   rcases List.mem_cons.1 hx with rfl | hx
   ·exact h0
   ·exact ih h x hx
  ·rename_i h0;exact absurd h h0
theorem chkPt_tp {p:Pt} (h:chkPt p=0):TP p∧p.n≤80∧p.its.length≤80:=by
 obtain ⟨k,n,its,set,clr,to,l⟩:=p
 simp only [chkPt] at h
 split at h
 ·rename_i hk;subst hk
  split at h;· simp at h
  rename_i h1
  split at h;· simp at h
  rename_i h2
  split at h;· simp at h
  rename_i h3
  split at h;· simp at h
  rename_i h4
  simp at h4
  subst h4
  refine ⟨Or.inl ⟨⟨set,clr,to,l⟩,n,by omega,⟨by simp;omega,by simp;omega,by simp;omega,by simp;omega, ?_, ?_⟩,rfl⟩,by simp;omega,by simp⟩
  ·simp only [not_or] at h1;exact Decidable.not_not.1 h1.2.2.2.2
  ·intro hl
   simp only at hl ⊢
   have:=fun hh=>h2 ⟨hl,hh⟩
   constructor
   ·cases to
    ·exact absurd (Or.inl rfl) this
    ·rfl
   ·cases hm:may l
    ·exact absurd (Or.inr hm) this
    ·rfl
 ·split at h
  ·rename_i hk;subst hk
   split at h;· simp at h
   rename_i h1
   split at h;· rename_i h2;exact absurd h h2
   rename_i h2
   split at h;· simp at h
   rename_i h3
   simp only [not_or,Decidable.not_not] at h3 h1 h2
   obtain ⟨rfl,rfl,rfl,h4,rfl⟩:=h3
   have:to=false:=by simpa using h4
   subst this
   exact ⟨Or.inr (Or.inl ⟨its,h1.1,chkItems_all h2,rfl⟩),by simp,by simp;omega⟩
  ·split at h
   ·rename_i hk;subst hk
    split at h;· simp at h
    rename_i h1
    split at h;· simp at h
    rename_i h3
    simp only [not_or,Decidable.not_not] at h3
    obtain ⟨rfl,rfl,h4,rfl,rfl⟩:=h3
    have:to=false:=by simpa using h4
    subst this
    exact ⟨Or.inr (Or.inr ⟨n,by omega,rfl⟩),by simp;omega,by simp⟩
   ·simp at h
theorem tp_chk {p:Pt} (h:TP p) (hn:p.n≤80):chkPt p=if p.its.length≤80 then 0 else 2:=by
 rcases h with ⟨c,n,hn',hc,rfl⟩ | ⟨l,hl,hi,rfl⟩ | ⟨n,hn',rfl⟩
 ·have hn2:n≤80:=hn
  have e:=chkPt1 n [] c.set c.clr c.to c.l
  show chkPt ⟨1,n,[],c.set,c.clr,c.to,c.l⟩=_
  rw [e,if_neg,if_neg,if_neg (by omega)]
  ·simp [keepP]
  ·rintro ⟨h1,h2⟩
   have:=hc.ln h1
   simp [this.1,this.2] at h2
  ·have h0:=hc.s0;have h1:=hc.s3;have h2:=hc.c0;have h3:=hc.c3;have h4:=hc.no
   simp only [not_or,Decidable.not_not]
   exact ⟨by omega,by omega,by omega,by omega,h4⟩
 ·show chkPt ⟨2,0,l,0,0,false,[]⟩=_
  rw [chkPt2]
  by_cases h80:l.length≤80
  ·rw [if_neg (by simp [hl];omega),if_neg (by rw [chkItems_none hi];simp),if_neg (by simp)]
   simp [putP,h80]
  ·rw [if_pos (Or.inr (by omega))];simp [putP,h80]
 ·have hn2:n≤80:=hn
  show chkPt ⟨3,n,[],0,0,false,[]⟩=_
  rw [chkPt3,if_neg (by omega),if_neg (by simp)]
  simp [cutP]
theorem frm_actsP {p:Pt} (h:Fm p):(frm (actsP p):Int)=p.n:=by
 rcases h with ⟨c,n,hn,rfl⟩ | ⟨l,rfl⟩ | ⟨n,hn,rfl⟩
 ·rw [actsP_keep,frm_keeps];simp [keepP];omega
 ·rw [actsP_put,frm_puts];simp [putP]
 ·rw [actsP_cut,frm_cuts];simp [cutP];omega
theorem tp_acok {p:Pt} (h:TP p):∀ a ∈ actsP p,AcOk a:=by
 rcases h with ⟨c,n,hn',hc,rfl⟩ | ⟨l,hl,hi,rfl⟩ | ⟨n,hn',rfl⟩
 ·intro a ha;rw [actsP_keep] at ha;obtain ⟨_,rfl⟩:=List.mem_replicate.1 ha;exact hc
 ·intro a ha;rw [actsP_put] at ha;obtain ⟨x,hx,rfl⟩:=List.mem_map.1 ha;exact hi x hx
 ·intro a ha;rw [actsP_cut] at ha;obtain ⟨_,rfl⟩:=List.mem_replicate.1 ha;trivial
theorem acts_acok {o:List Pt} (h:∀ p ∈ o,TP p):∀ a ∈ acts o,AcOk a:=by
 intro a ha
 obtain ⟨p,hp,hpa⟩:=List.mem_flatMap.1 ha
 exact tp_acok (h p hp) a hpa
theorem chkPts_zero {n:Int} {o:List Pt} (h:chkPts n o=0):(∀ p ∈ o,chkPt p=0)∧(o≠[]→n+(frm (acts o):Int)≤80):=by
 induction o generalizing n with
 | nil=>exact ⟨fun p hp=>by simp at hp,fun h=>absurd rfl h⟩
 | cons p o ih =>
  simp only [chkPts] at h
  split at h
  ·rename_i h0;exact absurd h h0
  ·rename_i h0
   split at h
   ·simp at h
   ·rename_i h80
    have h0':chkPt p=0:=Decidable.not_not.1 h0
    obtain ⟨h1,h2⟩:=ih h
    refine ⟨fun q hq=>?_,fun _=>?_⟩
    ·rcases List.mem_cons.1 hq with rfl | hq
     ·exact h0'
     ·exact h1 q hq
    ·have e:=frm_actsP (chkPt_tp h0').1.fm
     rw [acts_cons,frm_append]
     by_cases ho:o=[]
     ·subst ho;simp [acts_nil,frm];omega
     ·have:=h2 ho;simp;omega
theorem chkPts_mk {n:Int} {o:List Pt} (h:∀ p ∈ o,chkPt p=0) (hn:n+(frm (acts o):Int)≤80):chkPts n o=0:=by
 induction o generalizing n with
 | nil=>rfl
 | cons p o ih =>
  have h0:=h p (by simp)
  have e:=frm_actsP (chkPt_tp h0).1.fm
  rw [acts_cons,frm_append] at hn
  simp only [chkPts,h0]
  rw [if_neg (by simp),if_neg (by simp at hn;omega)]
  exact ih (fun q hq=>h q (by simp [hq])) (by simp at hn;omega)
structure OpOk (o:List Pt):Prop where
 tp:∀ p ∈ o,TP p
 n80:∀ p ∈ o,p.n≤80
 i80:∀ p ∈ o,p.its.length≤80
 len:o.length≤40
 frm:frm (acts o)≤80
 fin:EndA (acts o)
theorem OpOk.ne {o:List Pt} (h:OpOk o):o≠[]:=by rintro rfl;exact h.fin.ne rfl
theorem OpOk.ok {o:List Pt} (h:OpOk o):∀ a ∈ acts o,AcOk a:=acts_acok h.tp
theorem chkOp_ok {o:List Pt} (h:chkOp o=0):OpOk o:=by
 unfold chkOp at h
 split at h;· simp at h
 rename_i h1
 split at h;· rename_i h2;exact absurd h h2
 rename_i h2
 have h2':chkPts 0 o=0:=Decidable.not_not.1 h2
 obtain ⟨h3,h4⟩:=chkPts_zero h2'
 have hne:o≠[]:=fun e=>h1 (Or.inl e)
 have hfr:=h4 hne
 refine ⟨fun p hp=>(chkPt_tp (h3 p hp)).1,fun p hp=>(chkPt_tp (h3 p hp)).2.1,fun p hp=>(chkPt_tp (h3 p hp)).2.2,by omega,by omega, ?_⟩
 split at h
 ·simp at h
 ·rename_i p hp
  split at h
  ·rename_i hk
   have hmem:p ∈ o:=List.mem_of_getLast? hp
   have htp:=(chkPt_tp (h3 p hmem)).1
   have e:=dropLast_snoc hp
   rw [e,acts_append,acts_one]
   refine endA_append ?_ _
   rcases htp with ⟨c,n,hn,_,rfl⟩ | ⟨l,_,_,rfl⟩ | ⟨n,hn,rfl⟩
   ·rw [actsP_keep]
    obtain ⟨m,rfl⟩:∃ m:Nat,n=((m+1:Nat):Int):=⟨(n - 1).toNat,by omega⟩
    rw [Int.toNat_natCast,List.replicate_succ']
    exact ⟨_,c,rfl⟩
   ·simp [putP] at hk
   ·simp [cutP] at hk
  ·simp at h
theorem chkOp_mk {o:List Pt} (hne:o≠[]) (hl:o.length≤40) (h:∀ p ∈ o,chkPt p=0) (hn:frm (acts o)≤80) (he:EndsK o):chkOp o=0:=by
 obtain ⟨q,hq⟩:∃ q,o.getLast?=some q:=by
  cases hh:o.getLast? with
  | none=>exact absurd (List.getLast?_eq_none_iff.1 hh) hne
  | some q=>exact ⟨q,rfl⟩
 unfold chkOp
 rw [if_neg (by simp [hne];omega),if_neg (by rw [chkPts_mk h (by omega)];simp)]
 simp [hq,he q hq]
theorem frm_mem {o:List Pt} (h:∀ p ∈ o,Fm p) {p:Pt} (hp:p ∈ o):p.n≤frm (acts o):=by
 induction o with
 | nil=>simp at hp
 | cons q o ih =>
  rw [acts_cons,frm_append]
  rcases List.mem_cons.1 hp with rfl | hp
  ·have:=frm_actsP (h p (by simp));omega
  ·have:=ih (fun r hr=>h r (by simp [hr])) hp;omega
theorem tid_tp (out:List Pt) (ps:List It) (c:Nat) (l:List Ac) (ho:∀ p ∈ out,TP p) (hp:∀ x ∈ ps,chkItem x=0) (hl:∀ a ∈ l,AcOk a):∀ p ∈ tid out ps c l,TP p:=by
 have hfl:∀ (out:List Pt) (ps:List It) (c:Nat),(∀ p ∈ out,TP p)→(∀ x ∈ ps,chkItem x=0)→∀ p ∈ flush out ps c,TP p:=by
  intro out ps c ho hp p hm
  simp only [flush,List.append_assoc,List.mem_append] at hm
  rcases hm with hm | hm | hm
  ·exact ho p hm
  ·split at hm
   ·simp at hm
   ·rename_i hne;simp at hm;subst hm;exact Or.inr (Or.inl ⟨ps,hne,hp,rfl⟩)
  ·split at hm
   ·simp at hm
   ·rename_i hne;simp at hm;subst hm;exact Or.inr (Or.inr ⟨c,by omega,rfl⟩)
 induction l generalizing out ps c with
 | nil=>exact hfl out ps c ho hp
 | cons a l ih =>
  have hlT:∀ a ∈ l,AcOk a:=fun x hx=>hl x (List.mem_cons_of_mem _ hx)
  have ha:=hl a (List.mem_cons_self ..)
  cases a with
  | put x =>
   refine ih out (ps ++ [x]) c ho (fun y hy=>?_) hlT
   rcases List.mem_append.1 hy with hy | hy
   ·exact hp y hy
   ·simp at hy;subst hy;exact ha
  | cut=>exact ih out ps (c+1) ho hp hlT
  | keep k =>
   refine ih _ [] 0 ?_ (by simp) hlT
   have hf:=hfl out ps c ho hp
   intro p hm
   by_cases h:∃ q,(flush out ps c).getLast?=some q∧q.k=1∧q.kd=k
   ·obtain ⟨q,hq,h1⟩:=h
    rw [addK_some 1 hq h1] at hm
    rcases List.mem_append.1 hm with hm | hm
    ·exact hf p (List.mem_of_mem_take (by rwa [List.dropLast_eq_take] at hm))
    ·simp at hm
     subst hm
     rcases hf q (List.mem_of_getLast? hq) with ⟨c',n,hn,hc',rfl⟩ | ⟨_,_,_,rfl⟩ | ⟨_,_,rfl⟩
     ·exact Or.inl ⟨c',n+1,by omega,hc',rfl⟩
     ·simp [putP] at h1
     ·simp [cutP] at h1
   ·rw [addK_new 1 (fun q hq h1=>h ⟨q,hq,h1⟩)] at hm
    rcases List.mem_append.1 hm with hm | hm
    ·exact hf p hm
    ·simp at hm;subst hm;exact Or.inl ⟨k,1,by omega,ha,rfl⟩
theorem tid_app (out:List Pt) (ps:List It) (c:Nat) (l m:List Ac):∃ out' ps' c',tid out ps c (l ++ m)=tid out' ps' c' m:=by
 induction l generalizing out ps c with
 | nil=>exact ⟨out,ps,c,rfl⟩
 | cons a l ih=>cases a with
  | put x=>exact ih out (ps ++ [x]) c
  | cut=>exact ih out ps (c+1)
  | keep k=>exact ih _ [] 0
theorem tidyA_ends {l:List Ac} (h:EndA l):EndsK (tidyA l)∧tidyA l≠[]:=by
 obtain ⟨l',c,rfl⟩:=h
 obtain ⟨out,ps,n,e⟩:=tid_app [] [] 0 l' [.keep c]
 unfold tidyA
 rw [e]
 simp only [tid,flush_nil]
 refine ⟨endsK_addK _ _ _, ?_⟩
 intro h0
 by_cases h:∃ q,(flush out ps n).getLast?=some q∧q.k=1∧q.kd=c
 ·obtain ⟨q,hq,h1⟩:=h
  rw [addK_some 1 hq h1] at h0
  simp at h0
 ·rw [addK_new 1 (fun q hq h1=>h ⟨q,hq,h1⟩)] at h0
  simp at h0
theorem tidyA_chk {l:List Ac} (hok:∀ a ∈ l,AcOk a) (he:EndA l) (hf:frm l≤80):chkOp (tidyA l)=0∨chkOp (tidyA l)=2:=by
 have htp:∀ p ∈ tidyA l,TP p:=tid_tp [] [] 0 l (by simp) (by simp) hok
 obtain ⟨h1,h2⟩:=tidyA_ends he
 have hfr:frm (acts (tidyA l))≤80:=by rw [acts_tidyA,frm_norm];exact hf
 have hn:∀ p ∈ tidyA l,p.n≤80:=fun p hp=>by have:=frm_mem (fun q hq=>(htp q hq).fm) hp;omega
 by_cases hl:(tidyA l).length≤40
 ·by_cases hb:∀ p ∈ tidyA l,p.its.length≤80
  ·left
   exact chkOp_mk h2 hl (fun p hp=>by rw [tp_chk (htp p hp) (hn p hp),if_pos (hb p hp)]) hfr h1
  ·right
   have hx:∀ (n:Int) (o:List Pt),(∀ p ∈ o,TP p)→(∀ p ∈ o,p.n≤80)→(¬ ∀ p ∈ o,p.its.length≤80)→chkPts n o=2:=by
    intro n o
    induction o generalizing n with
    | nil=>intro _ _ h;simp at h
    | cons p o ih =>
     intro ht hn h
     simp only [chkPts]
     rw [tp_chk (ht p (by simp)) (hn p (by simp))]
     by_cases hp:p.its.length≤80
     ·rw [if_pos hp,if_neg (by simp)]
      split
      ·rfl
      ·refine ih _ (fun q hq=>ht q (by simp [hq])) (fun q hq=>hn q (by simp [hq])) (fun hall=>h ?_)
       intro q hq
       rcases List.mem_cons.1 hq with rfl | hq
       ·exact hp
       ·exact hall q hq
     ·rw [if_neg hp,if_pos (by decide)]
   have h3:=hx 0 (tidyA l) htp hn hb
   rw [chkOp_bad (by simp [h2];omega) (by rw [h3];decide),h3]
 ·right;exact chkOp_many (Or.inr (by omega))
def w64 (n:Int):Int:=Go.IntKind.i64.wrap n
def longs (f t:Int):List Pt→Int × Int
 | []=>(f,t)
 | p :: l=>if p.k=1 then longs (w64 (f+p.n)) (w64 (t+p.n)) l else if p.k=2 then longs f (w64 (t+p.its.length)) l else if p.k=3 then longs (w64 (f+p.n)) t l else longs f t l
theorem w64_small {n:Int} (h0:0≤n) (h1:n≤100000):w64 n=n:=by
 have:Go.IntKind.i64.wrap n=n:=by
  simp [Go.IntKind.wrap,Go.IntKind.bits,Go.IntKind.signed]
  omega
 exact this
theorem longs_ok (o:List Pt) (f t:Int) (hf:0≤f) (ht:0≤t) (h:∀ p ∈ o,TP p) (hff:f+frm (acts o)≤100000) (htt:t+too (acts o)≤100000):longs f t o=(f+frm (acts o),t+too (acts o)):=by
 induction o generalizing f t with
 | nil=>simp [longs,acts_nil,frm,too]
 | cons p o ih =>
  have hT:∀ q ∈ o,TP q:=fun q hq=>h q (by simp [hq])
  rw [acts_cons,frm_append] at hff
  rw [acts_cons,too_append] at htt
  rw [acts_cons,frm_append,too_append]
  rcases h p (by simp) with ⟨k,n,hn,_,rfl⟩ | ⟨l,hl,_,rfl⟩ | ⟨n,hn,rfl⟩
  ·rw [actsP_keep,frm_keeps] at hff
   rw [actsP_keep,too_keeps] at htt
   rw [actsP_keep,frm_keeps,too_keeps]
   have e:longs f t (keepP k n :: o)=longs (w64 (f+n)) (w64 (t+n)) o:=by simp [longs,keepP]
   rw [e,w64_small (by omega) (by omega),w64_small (by omega) (by omega),ih _ _ (by omega) (by omega) hT (by omega) (by omega)]
   simp only [Prod.mk.injEq]
   omega
  ·rw [actsP_put,frm_puts] at hff
   rw [actsP_put,too_puts] at htt
   rw [actsP_put,frm_puts,too_puts]
   have e:longs f t (putP l :: o)=longs f (w64 (t+l.length)) o:=by simp [longs,putP]
   rw [e,w64_small (by omega) (by omega),ih _ _ (by omega) (by omega) hT (by omega) (by omega)]
   simp only [Prod.mk.injEq]
   omega
  ·rw [actsP_cut,frm_cuts] at hff
   rw [actsP_cut,too_cuts] at htt
   rw [actsP_cut,frm_cuts,too_cuts]
   have e:longs f t (cutP n :: o)=longs (w64 (f+n)) t o:=by simp [longs,cutP]
   rw [e,w64_small (by omega) (by omega),ih _ _ (by omega) (by omega) hT (by omega) (by omega)]
   simp only [Prod.mk.injEq]
   omega
theorem too_bound {o:List Pt} (h:∀ p ∈ o,TP p) (hn:∀ p ∈ o,p.its.length≤80):too (acts o)≤frm (acts o)+80 * o.length:=by
 induction o with
 | nil=>simp [acts_nil,too]
 | cons p o ih =>
  have:=ih (fun q hq=>h q (by simp [hq])) (fun q hq=>hn q (by simp [hq]))
  rw [acts_cons,too_append,frm_append]
  simp only [List.length_cons]
  rcases h p (by simp) with ⟨k,n,hn',_,rfl⟩ | ⟨l,hl,_,rfl⟩ | ⟨n,hn',rfl⟩
  ·rw [actsP_keep,too_keeps,frm_keeps];omega
  ·have h80:=hn (putP l) (by simp)
   simp only [putP] at h80
   rw [actsP_put,too_puts,frm_puts];omega
  ·rw [actsP_cut,too_cuts,frm_cuts];omega
theorem OpOk.too {o:List Pt} (h:OpOk o):Mh.too (acts o)≤3280:=by
 have:=too_bound h.tp h.i80;have:=h.frm;have:=h.len;omega
theorem OpOk.longs {o:List Pt} (h:OpOk o):Mh.longs 0 0 o=((Mh.frm (acts o):Int),(Mh.too (acts o):Int)):=by
 have h1:=h.frm;have h2:=h.too
 rw [longs_ok o 0 0 (by omega) (by omega) h.tp (by omega) (by omega)];simp
def applyP (d:List It) (o:List Pt):List It × Int:=
 if chkDoc d≠0 then ([],chkDoc d)
 else if chkOp o≠0 then ([],chkOp o)
 else if frm (acts o)≠d.length then ([],6)
 else if 80 < too (acts o) then ([],2)
 else (doA d (acts o),0)
structure Applies (d:List It) (o:List Pt):Prop where
 doc:chkDoc d=0
 op:chkOp o=0
 base:frm (acts o)=d.length
 t80:too (acts o)≤80
theorem Applies.eq {d:List It} {o:List Pt} (h:Applies d o):applyP d o=(doA d (acts o),0):=by
 have h1:=h.t80
 simp only [applyP,h.doc,h.op,h.base]
 simp
 omega
theorem Applies.of {d:List It} {o:List Pt} (h:(applyP d o).2=0):Applies d o:=by
 unfold applyP at h
 split at h;· rename_i h1;exact absurd h h1
 rename_i h1
 split at h;· rename_i h2;exact absurd h h2
 rename_i h2
 split at h;· simp at h
 rename_i h3
 split at h;· simp at h
 rename_i h4
 exact ⟨Decidable.not_not.1 h1,Decidable.not_not.1 h2,Decidable.not_not.1 h3,by omega⟩
theorem doc_facts {d:List It} (h:chkDoc d=0):(∀ x ∈ d,chkItem x=0)∧d.length≤80∧∃ d' x,d=d' ++ [x]∧(x.c.toNat:Int)=10:=by
 unfold chkDoc at h
 split at h;· simp at h
 rename_i h1
 split at h;· rename_i h2;exact absurd h h2
 rename_i h2
 refine ⟨chkItems_all (Decidable.not_not.1 h2),by omega, ?_⟩
 split at h
 ·simp at h
 ·rename_i x hx
  split at h
  ·rename_i hc;exact ⟨d.dropLast,x,dropLast_snoc hx,hc⟩
  ·simp at h
theorem doc_mk {d:List It} (h:∀ x ∈ d,chkItem x=0) (hl:d.length≤80) (he:∃ d' x,d=d' ++ [x]∧(x.c.toNat:Int)=10):chkDoc d=0:=by
 obtain ⟨d',x,rfl,hc⟩:=he
 unfold chkDoc
 rw [if_neg (by omega),if_neg (by rw [chkItems_none h];simp)]
 simp [hc]
theorem do_items {d:List It} {l:List Ac} (hd:∀ x ∈ d,chkItem x=0) (hl:∀ a ∈ l,AcOk a):∀ x ∈ doA d l,chkItem x=0:=by
 induction l generalizing d with
 | nil=>intro x hx;simp [doA] at hx
 | cons a l ih =>
  have hlT:∀ a ∈ l,AcOk a:=fun x hx=>hl x (List.mem_cons_of_mem _ hx)
  have ha:=hl a (List.mem_cons_self ..)
  have hdT:∀ x ∈ d.tail,chkItem x=0:=fun x hx=>hd x (List.mem_of_mem_tail hx)
  cases a with
  | put y =>
   intro x hx
   simp only [doA] at hx
   rcases List.mem_cons.1 hx with rfl | hx
   ·exact ha
   ·exact ih hd hlT x hx
  | cut=>intro x hx;exact ih hdT hlT x hx
  | keep k =>
   intro x hx
   simp only [doA] at hx
   rcases List.mem_append.1 hx with hx | hx
   ·obtain ⟨y,hy,rfl⟩:=List.mem_map.1 hx
    exact markI_item (hd y (List.mem_of_mem_take hy)) ha
   ·exact ih hdT hlT x hx
theorem doA_append (d:List It) (l m:List Ac):doA d (l ++ m)=doA d l ++ doA (d.drop (frm l)) m:=by
 induction l generalizing d with
 | nil=>simp [doA,frm]
 | cons a l ih =>
  cases a with
  | put y=>simp [doA,frm,ih]
  | cut=>simp only [List.cons_append,doA,frm];rw [ih,List.drop_tail]
  | keep k=>simp only [List.cons_append,doA,frm];rw [ih,List.drop_tail];simp
theorem do_last {d d':List It} {x:It} {l:List Ac} (hd:d=d' ++ [x]) (he:EndA l) (hf:frm l=d.length):∃ e' c,doA d l=e' ++ [markI x c]:=by
 obtain ⟨l',c,rfl⟩:=he
 rw [doA_append]
 have:frm l'=d'.length:=by subst hd;simp [frm_append,frm] at hf;omega
 rw [this,hd]
 refine ⟨doA (d' ++ [x]) l',c, ?_⟩
 simp [doA]
theorem do_doc {d:List It} {l:List Ac} (hd:chkDoc d=0) (hl:∀ a ∈ l,AcOk a) (he:EndA l) (hf:frm l=d.length) (ht:too l≤80):chkDoc (doA d l)=0:=by
 obtain ⟨h1,h2,d',x,h3,h4⟩:=doc_facts hd
 refine doc_mk (do_items h1 hl) (by rw [doA_len d l (by omega)];exact ht) ?_
 obtain ⟨e',c,e⟩:=do_last h3 he hf
 exact ⟨e',markI x c,e,h4⟩
theorem Applies.res {d:List It} {o:List Pt} (h:Applies d o):chkDoc (doA d (acts o))=0∧(doA d (acts o)).length=too (acts o):=by
 have hk:=chkOp_ok h.op
 exact ⟨do_doc h.doc hk.ok hk.fin h.base h.t80,doA_len _ _ (by have:=h.base;omega)⟩
theorem doc_mks {d:List It} (hd:chkDoc d=0):∀ x ∈ d,x.Mk:=fun x hx=>item_mk ((doc_facts hd).1 x hx)
def chk2 (x y:List Pt):List Pt × List Pt × Int:=if chkOp x≠0 then ([],[],chkOp x) else if chkOp y≠0 then ([],[],chkOp y) else (x,y,0)
def turnP (a b:List Pt):List Pt × List Pt × Int:=
 if chkOp a≠0 then ([],[],chkOp a)
 else if chkOp b≠0 then ([],[],chkOp b)
 else if frm (acts a)≠frm (acts b) then ([],[],6)
 else chk2 (tidyA (turnA (acts a) (acts b)).1) (tidyA (turnA (acts a) (acts b)).2)
def joinP (a b:List Pt):List Pt × Int:=
 if chkOp a≠0 then ([],chkOp a)
 else if chkOp b≠0 then ([],chkOp b)
 else if too (acts a)≠frm (acts b) then ([],6)
 else if chkOp (tidyA (joinA (acts a) (acts b)))≠0 then ([],chkOp (tidyA (joinA (acts a) (acts b))))
 else (tidyA (joinA (acts a) (acts b)),0)
structure Turns (a b:List Pt):Prop where
 ca:chkOp a=0
 cb:chkOp b=0
 base:frm (acts a)=frm (acts b)
 cx:chkOp (tidyA (turnA (acts a) (acts b)).1)=0
 cy:chkOp (tidyA (turnA (acts a) (acts b)).2)=0
theorem Turns.eq {a b:List Pt} (h:Turns a b):turnP a b=(tidyA (turnA (acts a) (acts b)).1,tidyA (turnA (acts a) (acts b)).2,0):=by
 simp [turnP,chk2,h.ca,h.cb,h.base,h.cx,h.cy]
theorem Turns.of {a b:List Pt} (h:(turnP a b).2.2=0):Turns a b:=by
 unfold turnP at h
 split at h;· rename_i h1;exact absurd h h1
 rename_i h1
 split at h;· rename_i h2;exact absurd h h2
 rename_i h2
 split at h;· simp at h
 rename_i h3
 unfold chk2 at h
 split at h;· rename_i h4;exact absurd h h4
 rename_i h4
 split at h;· rename_i h5;exact absurd h h5
 rename_i h5
 exact ⟨Decidable.not_not.1 h1,Decidable.not_not.1 h2,Decidable.not_not.1 h3,Decidable.not_not.1 h4,Decidable.not_not.1 h5⟩
structure Joins (a b:List Pt):Prop where
 ca:chkOp a=0
 cb:chkOp b=0
 base:too (acts a)=frm (acts b)
 cj:chkOp (tidyA (joinA (acts a) (acts b)))=0
theorem Joins.eq {a b:List Pt} (h:Joins a b):joinP a b=(tidyA (joinA (acts a) (acts b)),0):=by
 simp [joinP,h.ca,h.cb,h.base,h.cj]
theorem Joins.of {a b:List Pt} (h:(joinP a b).2=0):Joins a b:=by
 unfold joinP at h
 split at h;· rename_i h1;exact absurd h h1
 rename_i h1
 split at h;· rename_i h2;exact absurd h h2
 rename_i h2
 split at h;· simp at h
 rename_i h3
 split at h;· rename_i h4;exact absurd h h4
 rename_i h4
 exact ⟨Decidable.not_not.1 h1,Decidable.not_not.1 h2,Decidable.not_not.1 h3,Decidable.not_not.1 h4⟩
theorem joinP_err {a b:List Pt} (ha:chkOp a=0) (hb:chkOp b=0) (hf:too (acts a)=frm (acts b)):(joinP a b).2=0∨(joinP a b).2=2:=by
 have ka:=chkOp_ok ha
 have kb:=chkOp_ok hb
 obtain ⟨f1,f2⟩:=join_frm _ _ hf
 have c1:=tidyA_chk (join_ok _ _ hf ka.ok kb.ok) (join_end _ _ hf ka.fin kb.fin) (by have:=ka.frm;omega)
 simp only [joinP,ha,hb,hf]
 rcases c1 with c1 | c1 <;> simp [c1]
theorem law_joins {d:List It} {a b:List Pt} (ha:Applies d a) (hb:Applies (doA d (acts a)) b):((joinP a b).2=2)∨(Joins a b∧Applies d (joinP a b).1∧doA d (acts (joinP a b).1)=doA (doA d (acts a)) (acts b)):=by
 have hf:too (acts a)=frm (acts b):=by rw [hb.base,ha.res.2]
 rcases joinP_err ha.op hb.op hf with h0 | h2
 ·right
  have hj:=Joins.of h0
  have ka:=chkOp_ok ha.op
  have kb:=chkOp_ok hb.op
  obtain ⟨f1,f2⟩:=join_frm _ _ hf
  refine ⟨hj, ?_⟩
  rw [hj.eq]
  refine ⟨⟨ha.doc,hj.cj, ?_, ?_⟩, ?_⟩
  ·rw [acts_tidyA,frm_norm,f1];exact ha.base
  ·rw [acts_tidyA,too_norm,f2];exact hb.t80
  ·rw [acts_tidyA,doA_norm];exact join_does _ _ hf ka.ok kb.ok d ha.base.symm (doc_mks ha.doc)
 ·exact Or.inl h2
end Go.Mh
namespace Go.Mh
structure Lok (L:List Pt):Prop where
 fm:∀ p ∈ L,Fm p
 keep:∀ p ∈ L,p.k=1→0 < p.n
 len:L.length≤1000
 n:∀ p ∈ L,p.n≤100
 its:∀ p ∈ L,p.its.length≤100
theorem Fm.n0 {p:Pt} (h:Fm p):0≤p.n:=by
 rcases h with ⟨c,n,h,rfl⟩ | ⟨l,rfl⟩ | ⟨n,h,rfl⟩
 ·exact h
 ·exact Int.le_refl _
 ·exact h
theorem Fm.its0 {p:Pt} (h:Fm p) (hk:p.k≠2):p.its=[]:=by
 rcases h with ⟨c,n,h,rfl⟩ | ⟨l,rfl⟩ | ⟨n,h,rfl⟩
 ·rfl
 ·exact absurd rfl hk
 ·rfl
def Low (O:List Pt) (N:Nat):Prop:=∀ q ∈ O,q.k≠2→q.its=[]∧0≤q.n∧q.n≤(N:Int)
theorem Low.mono {O:List Pt} {N M:Nat} (h:Low O N) (hm:N≤M):Low O M:=fun q hq hk=>by obtain ⟨h1,h2,h3⟩:=h q hq hk;exact ⟨h1,h2,by omega⟩
theorem alike_k {a b:Pt} (h:alikeP a b=true):a.k=b.k:=by simp [alikeP] at h;exact h.1.1.1.1
theorem addP_low {O:List Pt} {N M:Nat} {p:Pt} (h:Low O N) (hp:p.k≠2→p.its=[]∧0≤p.n∧p.n≤(M:Int)):Low (addP O p) (N+M):=by
 have h':Low O (N+M):=h.mono (by omega)
 unfold addP
 split
 ·exact h'
 ·split
  ·rename_i q hq
   split
   ·rename_i ha
    intro r hr hk
    rw [List.mem_append,List.mem_singleton] at hr
    rcases hr with hr | rfl
    ·exact h' r (List.dropLast_subset _ hr) hk
    ·simp only at hk ⊢
     obtain ⟨h1,h2,h3⟩:=h q (List.mem_of_getLast? hq) hk
     obtain ⟨g1,g2,g3⟩:=hp (by rw [← alike_k ha];exact hk)
     exact ⟨by rw [h1,g1];rfl,by omega,by omega⟩
   ·intro r hr hk
    rw [List.mem_append,List.mem_singleton] at hr
    rcases hr with hr | rfl
    ·exact h' r hr hk
    ·obtain ⟨g1,g2,g3⟩:=hp hk
     exact ⟨g1,g2,by omega⟩
  ·intro r hr hk
   rw [List.mem_append,List.mem_singleton] at hr
   rcases hr with hr | rfl
   ·exact h' r hr hk
   ·obtain ⟨g1,g2,g3⟩:=hp hk
    exact ⟨g1,g2,by omega⟩
theorem addP_len (O:List Pt) (p:Pt):(addP O p).length≤O.length+1:=by
 unfold addP
 split
 ·omega
 ·split
  ·split
   ·simp
   ·simp
  ·simp
theorem addP_last {O:List Pt} {p r:Pt} (h:(addP O p).getLast?=some r):O.getLast?=some r∨r.k=p.k:=by
 unfold addP at h
 split at h
 ·exact Or.inl h
 ·split at h
  ·split at h
   ·rename_i ha
    simp at h
    rw [← h]
    exact Or.inr (alike_k ha)
   ·simp at h
    rw [← h]
    exact Or.inr rfl
  ·simp at h
   rw [← h]
   exact Or.inr rfl
theorem addP_keepEnds {O:List Pt} {p:Pt} (hk:p.k=1) (hn:0 < p.n):EndsK (addP O p):=by
 intro r hr
 unfold addP at hr
 rw [if_neg (by rintro (⟨_,h⟩ | ⟨h,_⟩) <;> omega)] at hr
 split at hr
 ·split at hr
  ·rename_i ha
   simp at hr
   rw [← hr]
   exact (alike_k ha).trans hk
  ·simp at hr
   rw [← hr]
   exact hk
 ·simp at hr
  rw [← hr]
  exact hk
structure MadeI (L O:List Pt) (i:Nat):Prop where
 le:i≤L.length
 eq:mk2 O [] 0 (L.drop i)=madeP L
 len:O.length≤2 * i
 low:Low O (100 * i)
 ends:∀ p,L[i]?=some p→p.k≠1→EndsK O
structure MadeJ (L O:List Pt) (i j:Nat) (its:List It) (n:Int):Prop where
 ij:i≤j
 le:j≤L.length
 eq:mk2 O its n (L.drop j)=madeP L
 len:O.length≤2 * i
 low:Low O (100 * i)
 ends:EndsK O
 il:its.length+100 * i≤100 * j
 n0:0≤n
 n1:n+100 * i≤100 * j
theorem drop_at {α:Type} {L:List α} {i:Nat} {p:α} (h:L[i]?=some p):L.drop i=p :: L.drop (i+1):=by
 obtain ⟨hl,rfl⟩:=List.getElem?_eq_some_iff.1 h
 exact List.drop_eq_getElem_cons hl
theorem made_start (L:List Pt):MadeI L [] 0:=⟨Nat.zero_le _,rfl,Nat.le_refl _,fun q hq=>by simp at hq,fun p _ _ q hq=>by simp at hq⟩
theorem made_end {L O:List Pt} (h:MadeI L O L.length):O=madeP L:=by
 have:=h.eq
 rw [List.drop_length] at this
 simpa [mk2,addP_put_nil,addP_cut_zero] using this
theorem made_keep {L O:List Pt} {i:Nat} {p:Pt} (hL:Lok L) (h:MadeI L O i) (hp:L[i]?=some p) (hk:p.k=1):MadeI L (addP O p) (i+1):=by
 have hm:=List.mem_of_getElem? hp
 have hl:=(List.getElem?_eq_some_iff.1 hp).1
 refine ⟨hl, ?_,by have:=addP_len O p;have:=h.len;omega, ?_,fun _ _ _=>addP_keepEnds hk (hL.keep p hm hk)⟩
 ·have:=h.eq
  rw [drop_at hp] at this
  simpa [mk2,hk,addP_put_nil,addP_cut_zero] using this
 ·exact addP_low (M:=100) h.low fun h2=>⟨(hL.fm p hm).its0 h2,(hL.fm p hm).n0,hL.n p hm⟩
theorem made_open {L O:List Pt} {i:Nat} {p:Pt} (h:MadeI L O i) (hp:L[i]?=some p) (hk:p.k≠1):MadeJ L O i i [] 0:=
 ⟨Nat.le_refl _,h.le,h.eq,h.len,h.low,h.ends p hp hk,by simp,Int.le_refl _,by simp⟩
theorem made_step {L O:List Pt} {i j:Nat} {its:List It} {n:Int} {p:Pt} (hL:Lok L) (h:MadeJ L O i j its n) (hp:L[j]?=some p) (hk:p.k≠1):MadeJ L O i (j+1) (its ++ p.its) (n+p.n):=by
 have hm:=List.mem_of_getElem? hp
 have hl:=(List.getElem?_eq_some_iff.1 hp).1
 have h1:=hL.n p hm
 have h2:=hL.its p hm
 have h3:=(hL.fm p hm).n0
 have h4:=h.il
 have h5:=h.n1
 have h6:=h.ij
 refine ⟨by omega,hl, ?_,h.len,h.low,h.ends,by simp;omega,by have:=h.n0;omega,by omega⟩
 have:=h.eq
 rw [drop_at hp] at this
 simpa [mk2,hk] using this
theorem made_shut {L O:List Pt} {i j:Nat} {its:List It} {n:Int} (h:MadeJ L O i j its n) (hij:i < j) (hx:∀ p,L[j]?=some p→p.k=1):MadeI L (addP (addP O (putP its)) (cutP n)) j:=by
 refine ⟨h.le, ?_, ?_, ?_,fun p hp hk=>absurd (hx p hp) hk⟩
 ·rw [← h.eq]
  rcases Nat.lt_or_ge j L.length with hl | hl
  ·obtain ⟨p,hp⟩:∃ p,L[j]?=some p:=⟨_,List.getElem?_eq_getElem hl⟩
   rw [drop_at hp,mk2_keep O its n p _ (hx p hp)]
  ·rw [List.drop_eq_nil_of_le hl,mk2_end O its n]
 ·have h1:=addP_len (addP O (putP its)) (cutP n)
  have h2:=addP_len O (putP its)
  have:=h.len
  omega
 ·have h1:=addP_low (p:=putP its) (M:=0) h.low fun hk=>absurd rfl hk
  have hn:=h.n0
  have hn1:=h.n1
  have h2:=addP_low (p:=cutP n) (M:=n.toNat) h1 fun _=>⟨rfl,hn,by simp only [cutP];omega⟩
  exact h2.mono (by omega)
theorem made_keep_q {L O:List Pt} {i:Nat} {p:Pt} (hL:Lok L) (h:MadeI L O i) (hk:p.k=1):∀ q,O.getLast?=some q→alikeP q p=true→p.k≠2∧q.its=[]∧0≤q.n∧q.n≤1000000:=fun q hq ha=>by
 have hk2:q.k≠2:=by rw [alike_k ha];omega
 obtain ⟨h1,h2,h3⟩:=h.low q (List.mem_of_getLast? hq) hk2
 have:=h.le
 have:=hL.len
 exact ⟨by omega,h1,h2,by omega⟩
theorem made_put_q {L O:List Pt} {i j:Nat} {its:List It} {n:Int} (h:MadeJ L O i j its n):∀ q,O.getLast?=some q→alikeP q (putP its)=true→(putP its).k≠2∧q.its=[]∧0≤q.n∧q.n≤1000000:=fun q hq ha=>by
 have h1:=alike_k ha
 rw [h.ends q hq] at h1
 simp [putP] at h1
theorem made_cut_q {L O:List Pt} {i j:Nat} {its:List It} {n:Int} (h:MadeJ L O i j its n):∀ q,(addP O (putP its)).getLast?=some q→alikeP q (cutP n)=true→(cutP n).k≠2∧q.its=[]∧0≤q.n∧q.n≤1000000:=fun q hq ha=>by
 have h1:=alike_k ha
 rcases addP_last hq with h2 | h2
 ·rw [h.ends q h2] at h1
  simp [cutP] at h1
 ·rw [h2] at h1
  simp [cutP,putP] at h1
end Go.Mh
namespace Go.Mh
def pt0:Pt:=⟨0,0,[],0,0,false,[]⟩
theorem actsP_none {p:Pt} (hn:p.n=0) (hi:p.its=[]):actsP p=[]:=by simp [actsP,hn,hi]
structure RdOk (p:Pt) (o:List Pt):Prop where
 left:(p.n=0∧p.its=[])∨TP p
 tp:∀ x ∈ o,TP x
 n80:p.n≤80∧∀ x ∈ o,x.n≤80
 i80:p.its.length≤80∧∀ x ∈ o,x.its.length≤80
def rdA (p:Pt) (o:List Pt):List Ac:=actsP p ++ acts o
def moreR (p:Pt) (o:List Pt):Bool × Pt × List Pt:=
 if p.n=0∧p.its=[] then (match o with | []=>(false,p,[]) | x :: o'=>(true,x,o')) else (true,p,o)
def cntR (p:Pt) (o:List Pt):Nat:=(if p.n=0∧p.its=[] then 0 else 1)+o.length
theorem TP.full {p:Pt} (h:TP p):¬ (p.n=0∧p.its=[]):=by
 rcases h with ⟨c,n,hn,_,rfl⟩ | ⟨l,hl,_,rfl⟩ | ⟨n,hn,rfl⟩
 ·simp [keepP];omega
 ·simp [putP,hl]
 ·simp [cutP];omega
theorem RdOk.start {o:List Pt} (h:OpOk o):RdOk pt0 o:=⟨Or.inl ⟨rfl,rfl⟩,h.tp,⟨by decide,h.n80⟩,⟨by decide,h.i80⟩⟩
theorem RdOk.moreT {p x:Pt} {o:List Pt} (h:RdOk p (x :: o)) (he:p.n=0∧p.its=[]):RdOk x o∧TP x∧rdA x o=rdA p (x :: o)∧cntR x o≤cntR p (x :: o):=by
 refine ⟨⟨Or.inr (h.tp x (List.mem_cons_self ..)),fun y hy=>h.tp y (List.mem_cons_of_mem _ hy),⟨h.n80.2 x (List.mem_cons_self ..),fun y hy=>h.n80.2 y (List.mem_cons_of_mem _ hy)⟩,⟨h.i80.2 x (List.mem_cons_self ..),fun y hy=>h.i80.2 y (List.mem_cons_of_mem _ hy)⟩⟩,h.tp x (List.mem_cons_self ..), ?_, ?_⟩
 ·simp [rdA,acts_cons,actsP_none he.1 he.2]
 ·have:=(h.tp x (List.mem_cons_self ..)).full
  simp [cntR,he,this];omega
theorem RdOk.full {p:Pt} {o:List Pt} (h:RdOk p o) (he:¬ (p.n=0∧p.its=[])):TP p:=by
 rcases h.left with h1 | h1
 ·exact absurd h1 he
 ·exact h1
theorem RdOk.more {p:Pt} {o:List Pt} (h:RdOk p o) {m:Bool} {p':Pt} {o':List Pt} (e:moreR p o=(m,p',o')) :
  RdOk p' o'∧rdA p' o'=rdA p o∧cntR p' o'≤cntR p o∧(m=true→TP p')∧(m=false→rdA p' o'=[]):=by
 unfold moreR at e
 split at e
 ·rename_i he
  cases o with
  | nil =>
   simp at e
   obtain ⟨rfl,rfl,rfl⟩:=e
   exact ⟨h,rfl,Nat.le_refl _,fun h=>by simp at h,fun _=>by simp [rdA,actsP_none he.1 he.2,acts]⟩
  | cons x o =>
   simp at e
   obtain ⟨rfl,rfl,rfl⟩:=e
   obtain ⟨h1,h2,h3,h4⟩:=h.moreT he
   exact ⟨h1,h3,h4,fun _=>h2,fun h=>by simp at h⟩
 ·rename_i he
  simp at e
  obtain ⟨rfl,rfl,rfl⟩:=e
  exact ⟨h,rfl,Nat.le_refl _,fun _=>h.full he,fun h=>by simp at h⟩
def wgtR (p:Pt) (o:List Pt):Nat:=1000 * o.length+p.n.toNat+p.its.length
theorem RdOk.wgt {p:Pt} {o:List Pt} (h:RdOk p o) {m:Bool} {p':Pt} {o':List Pt} (e:moreR p o=(m,p',o')):wgtR p' o'≤wgtR p o:=by
 unfold moreR at e
 split at e
 ·cases o with
  | nil=>simp at e;obtain ⟨rfl,rfl,rfl⟩:=e;exact Nat.le_refl _
  | cons x o =>
   simp at e
   obtain ⟨rfl,rfl,rfl⟩:=e
   have h1:=h.n80.2 x (List.mem_cons_self ..)
   have h2:=h.i80.2 x (List.mem_cons_self ..)
   simp [wgtR];omega
 ·simp at e;obtain ⟨rfl,rfl,rfl⟩:=e;exact Nat.le_refl _
theorem turn_ps (l:List It) (a b:List Ac):turnA (l.map .put ++ a) b=(l.map .put ++ (turnA a b).1,List.replicate l.length keep0 ++ (turnA a b).2):=by
 induction l with
 | nil=>rfl
 | cons x l ih=>simp only [List.map_cons,List.cons_append,turn_p,ih,List.length_cons,List.replicate_succ]
theorem turn_qs (l:List It) (a b:List Ac) (h:∀ x a',a≠.put x :: a'):turnA a (l.map .put ++ b)=(List.replicate l.length keep0 ++ (turnA a b).1,l.map .put ++ (turnA a b).2):=by
 induction l with
 | nil=>rfl
 | cons x l ih=>simp only [List.map_cons,List.cons_append,turn_q h,ih,List.length_cons,List.replicate_succ]
theorem turn_kks (n:Nat) (u t:Kd) (a b:List Ac):turnA (List.replicate n (.keep u) ++ a) (List.replicate n (.keep t) ++ b)=(List.replicate n (.keep u) ++ (turnA a b).1,List.replicate n (.keep (overK t u)) ++ (turnA a b).2):=by
 induction n with
 | zero=>rfl
 | succ n ih=>simp only [List.replicate_succ,List.cons_append,turn_kk,ih]
theorem turn_cks (n:Nat) (t:Kd) (a b:List Ac):turnA (List.replicate n .cut ++ a) (List.replicate n (.keep t) ++ b)=(List.replicate n .cut ++ (turnA a b).1,(turnA a b).2):=by
 induction n with
 | zero=>rfl
 | succ n ih=>simp only [List.replicate_succ,List.cons_append,turn_ck,ih]
theorem turn_kcs (n:Nat) (u:Kd) (a b:List Ac):turnA (List.replicate n (.keep u) ++ a) (List.replicate n .cut ++ b)=((turnA a b).1,List.replicate n .cut ++ (turnA a b).2):=by
 induction n with
 | zero=>rfl
 | succ n ih=>simp only [List.replicate_succ,List.cons_append,turn_kc,ih]
theorem turn_ccs (n:Nat) (a b:List Ac):turnA (List.replicate n .cut ++ a) (List.replicate n .cut ++ b)=turnA a b:=by
 induction n with
 | zero=>rfl
 | succ n ih=>simp only [List.replicate_succ,List.cons_append,turn_cc,ih]
structure Lk (L:List Pt):Prop where
 fm:∀ p ∈ L,Fm p
 keep:∀ p ∈ L,p.k=1→0 < p.n
 n:∀ p ∈ L,p.n≤100
 its:∀ p ∈ L,p.its.length≤100
theorem Lk.lok {L:List Pt} (h:Lk L) (hl:L.length≤1000):Lok L:=⟨h.fm,h.keep,hl,h.n,h.its⟩
theorem Lk.nil:Lk []:=⟨fun p h=>by simp at h,fun p h=>by simp at h,fun p h=>by simp at h,fun p h=>by simp at h⟩
theorem Lk.snoc {L:List Pt} (h:Lk L) {p:Pt} (h1:Fm p) (h2:p.k=1→0 < p.n) (h3:p.n≤100) (h4:p.its.length≤100):Lk (L ++ [p]):=by
 refine ⟨fun q hq=>?_,fun q hq=>?_,fun q hq=>?_,fun q hq=>?_⟩ <;> (rcases List.mem_append.1 hq with hq | hq)
 ·exact h.fm q hq
 ·simp at hq;subst hq;exact h1
 ·exact h.keep q hq
 ·simp at hq;subst hq;exact h2
 ·exact h.n q hq
 ·simp at hq;subst hq;exact h3
 ·exact h.its q hq
 ·simp at hq;subst hq;exact h4
def overP (t s:Pt):Pt:=⟨t.k,t.n,t.its,bnot t.set (bor s.set s.clr),bnot t.clr (bor s.set s.clr),if s.to=true then false else t.to,if s.to=true then [] else t.l⟩
def bothP (s t:Pt):Pt:=⟨s.k,s.n,s.its,bor (bnot s.set t.clr) t.set,bor (bnot s.clr t.set) t.clr,if t.to=true then true else s.to,if t.to=true then t.l else s.l⟩
structure TurnI (a b X Y:List Pt) (p:Pt) (o:List Pt) (q:Pt) (u:List Pt):Prop where
 rp:RdOk p o
 rq:RdOk q u
 fr:frm (rdA p o)=frm (rdA q u)
 x:acts X ++ (turnA (rdA p o) (rdA q u)).1=(turnA (acts a) (acts b)).1
 y:acts Y ++ (turnA (rdA p o) (rdA q u)).2=(turnA (acts a) (acts b)).2
 lx:Lk X
 ly:Lk Y
 nx:X.length+cntR p o+cntR q u≤80
 ny:Y.length+cntR p o+cntR q u≤80
theorem turnI_start {a b:List Pt} (ha:OpOk a) (hb:OpOk b) (hf:frm (acts a)=frm (acts b)):TurnI a b [] [] pt0 a pt0 b:=by
 have h1:=ha.len
 have h2:=hb.len
 exact ⟨RdOk.start ha,RdOk.start hb,hf,rfl,rfl,Lk.nil,Lk.nil,by simp [cntR,pt0];omega,by simp [cntR,pt0];omega⟩
theorem turnI_more {a b X Y:List Pt} {p:Pt} {o:List Pt} {q:Pt} {u:List Pt} (h:TurnI a b X Y p o q u) {m m2:Bool} {p' q':Pt} {o' u':List Pt} (e:moreR p o=(m,p',o')) (e2:moreR q u=(m2,q',u')) :
  TurnI a b X Y p' o' q' u'∧(m=true→TP p')∧(m=false→rdA p' o'=[])∧(m2=true→TP q')∧(m2=false→rdA q' u'=[]):=by
 obtain ⟨h1,h2,h3,h4,h5⟩:=h.rp.more e
 obtain ⟨g1,g2,g3,g4,g5⟩:=h.rq.more e2
 have n1:=h.nx
 have n2:=h.ny
 exact ⟨⟨h1,g1,by rw [h2,g2];exact h.fr,by rw [h2,g2];exact h.x,by rw [h2,g2];exact h.y,h.lx,h.ly,by omega,by omega⟩,h4,h5,g4,g5⟩
theorem TP.k2 {p:Pt} (h:TP p) (hk:p.k=2):∃ l,l≠[]∧(∀ x ∈ l,chkItem x=0)∧p=putP l:=by
 rcases h with ⟨c,n,hn,_,rfl⟩ | h | ⟨n,hn,rfl⟩
 ·simp [keepP] at hk
 ·exact h
 ·simp [cutP] at hk
theorem TP.k1 {p:Pt} (h:TP p) (hk:p.k=1):∃ c n,0 < n∧c.Ok∧p=keepP c n:=by
 rcases h with h | ⟨l,_,_,rfl⟩ | ⟨n,hn,rfl⟩
 ·exact h
 ·simp [putP] at hk
 ·simp [cutP] at hk
theorem TP.k3 {p:Pt} (h:TP p) (h1:p.k≠1) (h2:p.k≠2):∃ n,0 < n∧p=cutP n:=by
 rcases h with ⟨c,n,hn,_,rfl⟩ | ⟨l,_,_,rfl⟩ | h
 ·simp [keepP] at h1
 ·simp [putP] at h2
 ·exact h
theorem TP.k4 {p:Pt} (h:TP p):p.k=1∨p.k=2∨p.k=3:=by
 rcases h with ⟨c,n,hn,_,rfl⟩ | ⟨l,_,_,rfl⟩ | ⟨n,hn,rfl⟩
 ·exact Or.inl rfl
 ·exact Or.inr (Or.inl rfl)
 ·exact Or.inr (Or.inr rfl)
theorem TP.pos2 {p:Pt} (h:TP p) (hk:p.k≠2):0 < p.n:=by
 rcases h with ⟨c,n,hn,_,rfl⟩ | ⟨l,_,_,rfl⟩ | ⟨n,hn,rfl⟩
 ·exact hn
 ·simp [putP] at hk
 ·exact hn
theorem rdA_pt0 (o:List Pt):rdA pt0 o=acts o:=rfl
theorem rdA_put (l:List It) (o:List Pt):rdA (putP l) o=l.map .put ++ acts o:=rfl
theorem rdA_keep (c:Kd) (n:Int) (o:List Pt):rdA (keepP c n) o=List.replicate n.toNat (.keep c) ++ acts o:=rfl
theorem rdA_cut (n:Int) (o:List Pt):rdA (cutP n) o=List.replicate n.toNat .cut ++ acts o:=rfl
theorem cntR_pt0 (o:List Pt):cntR pt0 o=o.length:=by simp [cntR,pt0]
theorem cntR_full {p:Pt} (h:TP p) (o:List Pt):cntR p o=1+o.length:=by simp only [cntR,if_neg h.full]
theorem RdOk.none {p:Pt} {o:List Pt} (h:RdOk p o):RdOk pt0 o:=⟨Or.inl ⟨rfl,rfl⟩,h.tp,⟨by decide,h.n80.2⟩,⟨by decide,h.i80.2⟩⟩
theorem turnI_p {a b X Y:List Pt} {p:Pt} {o:List Pt} {q:Pt} {u:List Pt} (h:TurnI a b X Y p o q u) (hp:TP p) (hk:p.k=2) :
  TurnI a b (X ++ [p]) (Y ++ [keepP kd0 p.its.length]) pt0 o q u:=by
 obtain ⟨l,hl,hi,rfl⟩:=hp.k2 hk
 have hi8:=h.rp.i80.1
 have e:=turn_ps l (acts o) (rdA q u)
 have hx:=h.x;have hy:=h.y;have hf:=h.fr
 rw [rdA_put] at hx hy hf
 rw [e] at hx hy
 have n1:=h.nx;have n2:=h.ny
 rw [cntR_full hp] at n1 n2
 have hpos:0 < l.length:=List.length_pos_iff.2 hl
 refine ⟨h.rp.none,h.rq, ?_, ?_, ?_,h.lx.snoc hp.fm (fun e=>by simp [putP] at e) (by simp [putP]) (by simp [putP] at hi8 ⊢;omega),h.ly.snoc (Or.inl ⟨kd0,_,by omega,rfl⟩) (fun _=>by simp only [keepP,putP];omega) (by simp only [keepP,putP] at hi8 ⊢;omega) (by simp [keepP]), ?_, ?_⟩
 ·rw [rdA_pt0,← hf,frm_append,frm_puts];omega
 ·rw [rdA_pt0,acts_append,acts_one,actsP_put,← hx];simp
 ·rw [rdA_pt0,acts_append,acts_one,actsP_keep,← hy];simp [putP,keep0]
 ·rw [cntR_pt0];simp;omega
 ·rw [cntR_pt0];simp;omega
theorem turnI_q {a b X Y:List Pt} {p:Pt} {o:List Pt} {q:Pt} {u:List Pt} (h:TurnI a b X Y p o q u) (hn:∀ x a',rdA p o≠.put x :: a') (hq:TP q) (hk:q.k=2) :
  TurnI a b (X ++ [keepP kd0 q.its.length]) (Y ++ [q]) p o pt0 u:=by
 obtain ⟨l,hl,hi,rfl⟩:=hq.k2 hk
 have hi8:=h.rq.i80.1
 have e:=turn_qs l (rdA p o) (acts u) hn
 have hx:=h.x;have hy:=h.y;have hf:=h.fr
 rw [rdA_put] at hx hy hf
 rw [e] at hx hy
 have n1:=h.nx;have n2:=h.ny
 rw [cntR_full hq] at n1 n2
 have hpos:0 < l.length:=List.length_pos_iff.2 hl
 refine ⟨h.rp,h.rq.none, ?_, ?_, ?_,h.lx.snoc (Or.inl ⟨kd0,_,by omega,rfl⟩) (fun _=>by simp only [keepP,putP];omega) (by simp only [keepP,putP] at hi8 ⊢;omega) (by simp [keepP]),h.ly.snoc hq.fm (fun e=>by simp [putP] at e) (by simp [putP]) (by simp [putP] at hi8 ⊢;omega), ?_, ?_⟩
 ·rw [rdA_pt0,hf,frm_append,frm_puts];omega
 ·rw [rdA_pt0,acts_append,acts_one,actsP_keep,← hx];simp [putP,keep0]
 ·rw [rdA_pt0,acts_append,acts_one,actsP_put,← hy];simp
 ·rw [cntR_pt0];simp;omega
 ·rw [cntR_pt0];simp;omega
theorem noput {p:Pt} {o:List Pt} (h:TP p∧p.k≠2∨rdA p o=[]):∀ x a',rdA p o≠.put x :: a':=by
 intro x a' e
 rcases h with ⟨h,hk⟩ | h
 ·rcases h with ⟨c,n,hn,_,rfl⟩ | ⟨l,_,_,rfl⟩ | ⟨n,hn,rfl⟩
  ·obtain ⟨m,hm⟩:∃ m,n.toNat=m+1:=⟨n.toNat - 1,by omega⟩
   rw [rdA_keep,hm] at e;simp [List.replicate_succ] at e
  ·simp [putP] at hk
  ·obtain ⟨m,hm⟩:∃ m,n.toNat=m+1:=⟨n.toNat - 1,by omega⟩
   rw [rdA_cut,hm] at e;simp [List.replicate_succ] at e
 ·rw [h] at e;simp at e
theorem frm_pos {p:Pt} {o:List Pt} (h:TP p) (hk:p.k≠2):0 < frm (rdA p o):=by
 rcases h with ⟨c,n,hn,_,rfl⟩ | ⟨l,_,_,rfl⟩ | ⟨n,hn,rfl⟩
 ·rw [rdA_keep,frm_append,frm_keeps];omega
 ·simp [putP] at hk
 ·rw [rdA_cut,frm_append,frm_cuts];omega
theorem too_pos {p:Pt} {o:List Pt} (h:TP p) (hk:p.k≠3):0 < too (rdA p o):=by
 rcases h with ⟨c,n,hn,_,rfl⟩ | ⟨l,hl,_,rfl⟩ | ⟨n,hn,rfl⟩
 ·rw [rdA_keep,too_append,too_keeps];omega
 ·have:=List.length_pos_iff.2 hl;rw [rdA_put,too_append,too_puts];omega
 ·simp [cutP] at hk
theorem turnI_end {a b X Y:List Pt} {p:Pt} {o:List Pt} {q:Pt} {u:List Pt} (h:TurnI a b X Y p o q u) (hp:TP p∧p.k≠2∨rdA p o=[]) (hq:TP q∧q.k≠2∨rdA q u=[]) (he:rdA p o=[]∨rdA q u=[]) :
  acts X=(turnA (acts a) (acts b)).1∧acts Y=(turnA (acts a) (acts b)).2:=by
 have hf:=h.fr
 have h1:rdA p o=[]:=by
  rcases hp with ⟨h1,h2⟩ | h1
  ·rcases he with he | he
   ·exact he
   ·have:=frm_pos (o:=o) h1 h2;rw [hf,he] at this;simp [frm] at this
  ·exact h1
 have h2:rdA q u=[]:=by
  rcases hq with ⟨h2,h3⟩ | h2
  ·have:=frm_pos (o:=u) h2 h3;rw [← hf,h1] at this;simp [frm] at this
  ·exact h2
 have hx:=h.x;have hy:=h.y
 rw [h1,h2] at hx hy
 have e0:turnA [] []=([],[]):=rfl
 rw [e0] at hx hy
 exact ⟨by simpa using hx,by simpa using hy⟩
def takeN (p:Pt) (n:Int):Pt:={ p with n:=n }
def restN (p:Pt) (n:Int):Pt:={ p with n:=p.n - n }
theorem rep_split {α:Type} (x:α) {m n:Int} (h0:0≤n) (h:n≤m):List.replicate m.toNat x=List.replicate n.toNat x ++ List.replicate (m - n).toNat x:=by
 rw [List.replicate_append_replicate];congr 1;omega
theorem RdOk.rest {p:Pt} {o:List Pt} (h:RdOk p o) (hp:TP p) (hk:p.k≠2) {n:Int} (h0:0 < n) (hn:n≤p.n):RdOk (restN p n) o:=by
 refine ⟨?_,h.tp,⟨by have:=h.n80.1;simp only [restN];omega,h.n80.2⟩,h.i80⟩
 by_cases e:p.n=n
 ·left
  refine ⟨by simp [restN,e], ?_⟩
  exact hp.fm.its0 hk
 ·right
  rcases hp with ⟨c,m,hm,hc,rfl⟩ | ⟨l,hl,_,rfl⟩ | ⟨m,hm,rfl⟩
  ·simp [keepP] at hn e
   exact Or.inl ⟨c,m - n,by omega,hc,rfl⟩
  ·simp [putP] at hk
  ·simp [cutP] at hn e
   exact Or.inr (Or.inr ⟨m - n,by omega,rfl⟩)
theorem cntR_rest {p:Pt} (_:TP p) (n:Int) (o:List Pt):cntR (restN p n) o≤1+o.length:=by
 unfold cntR;split <;> omega
theorem cntR_gone {p:Pt} (hp:TP p) (hk:p.k≠2) (o:List Pt):cntR (restN p p.n) o=o.length:=by
 have:(restN p p.n).n=0∧(restN p p.n).its=[]:=⟨by simp [restN],hp.fm.its0 hk⟩
 simp only [cntR,if_pos this];omega
theorem cnt_both {p q:Pt} (hp:TP p) (hk:p.k≠2) (hq:TP q) (hj:q.k≠2) {n:Int} (hn:n=p.n∨n=q.n) (o u:List Pt):cntR (restN p n) o+cntR (restN q n) u+1≤cntR p o+cntR q u:=by
 rw [cntR_full hp,cntR_full hq]
 have h1:=cntR_rest hp n o
 have h2:=cntR_rest hq n u
 rcases hn with rfl | rfl
 ·rw [cntR_gone hp hk];omega
 ·rw [cntR_gone hq hj];omega
theorem turnI_kk {a b X Y:List Pt} {p:Pt} {o:List Pt} {q:Pt} {u:List Pt} (h:TurnI a b X Y p o q u) (hp:TP p) (hk:p.k=1) (hq:TP q) (hj:q.k=1) {n:Int} (h0:0 < n) (h1:n≤p.n) (h2:n≤q.n) (hn:n=p.n∨n=q.n) :
  TurnI a b (X ++ [takeN p n]) (Y ++ [overP (takeN q n) (takeN p n)]) (restN p n) o (restN q n) u:=by
 have cb:=cnt_both hp (by omega) hq (by omega) hn o u
 have r1:=h.rp.rest hp (by omega) h0 h1
 have r2:=h.rq.rest hq (by omega) h0 h2
 have n8:=h.rp.n80.1
 have hx:=h.x;have hy:=h.y;have hf:=h.fr;have n1:=h.nx;have n2:=h.ny
 obtain ⟨c,m,hm,hc,rfl⟩:=hp.k1 hk
 obtain ⟨d,m2,hm2,hd,rfl⟩:=hq.k1 hj
 simp only [keepP] at h1 h2 n8
 have e1:rdA (keepP c m) o=List.replicate n.toNat (.keep c) ++ rdA (keepP c (m - n)) o:=by rw [rdA_keep,rdA_keep,rep_split _ (by omega) h1,List.append_assoc]
 have e2:rdA (keepP d m2) u=List.replicate n.toNat (.keep d) ++ rdA (keepP d (m2 - n)) u:=by rw [rdA_keep,rdA_keep,rep_split _ (by omega) h2,List.append_assoc]
 rw [e1,e2,turn_kks] at hx hy
 rw [e1,e2,frm_append,frm_append,frm_keeps,frm_keeps] at hf
 refine ⟨r1,r2, ?_, ?_, ?_,h.lx.snoc (Or.inl ⟨c,n,by omega,rfl⟩) (fun _=>h0) (by simp only [takeN];omega) (by simp [takeN,keepP]),h.ly.snoc (Or.inl ⟨overK d c,n,by omega,rfl⟩) (fun _=>h0) (by simp only [takeN,overP];omega) (by simp [takeN,overP,keepP]), ?_, ?_⟩
 ·show frm (rdA (keepP c (m - n)) o)=frm (rdA (keepP d (m2 - n)) u);omega
 ·show acts (X ++ [keepP c n]) ++ (turnA (rdA (keepP c (m - n)) o) (rdA (keepP d (m2 - n)) u)).1=_
  rw [acts_append,acts_one,actsP_keep,← hx];simp
 ·show acts (Y ++ [keepP (overK d c) n]) ++ (turnA (rdA (keepP c (m - n)) o) (rdA (keepP d (m2 - n)) u)).2=_
  rw [acts_append,acts_one,actsP_keep,← hy];simp
 ·simp only [List.length_append,List.length_cons,List.length_nil];omega
 ·simp only [List.length_append,List.length_cons,List.length_nil];omega
theorem turnI_ck {a b X Y:List Pt} {p:Pt} {o:List Pt} {q:Pt} {u:List Pt} (h:TurnI a b X Y p o q u) (hp:TP p) (hk1:p.k≠1) (hk2:p.k≠2) (hq:TP q) (hj:q.k=1) {n:Int} (h0:0 < n) (h1:n≤p.n) (h2:n≤q.n) (hn:n=p.n∨n=q.n) :
  TurnI a b (X ++ [takeN p n]) Y (restN p n) o (restN q n) u:=by
 have cb:=cnt_both hp hk2 hq (by omega) hn o u
 have r1:=h.rp.rest hp hk2 h0 h1
 have r2:=h.rq.rest hq (by omega) h0 h2
 have n8:=h.rp.n80.1
 have hx:=h.x;have hy:=h.y;have hf:=h.fr;have n1:=h.nx;have n2:=h.ny
 obtain ⟨m,hm,rfl⟩:=hp.k3 hk1 hk2
 obtain ⟨d,m2,hm2,hd,rfl⟩:=hq.k1 hj
 simp only [keepP,cutP] at h1 h2 n8
 have e1:rdA (cutP m) o=List.replicate n.toNat .cut ++ rdA (cutP (m - n)) o:=by rw [rdA_cut,rdA_cut,rep_split _ (by omega) h1,List.append_assoc]
 have e2:rdA (keepP d m2) u=List.replicate n.toNat (.keep d) ++ rdA (keepP d (m2 - n)) u:=by rw [rdA_keep,rdA_keep,rep_split _ (by omega) h2,List.append_assoc]
 rw [e1,e2,turn_cks] at hx hy
 rw [e1,e2,frm_append,frm_append,frm_cuts,frm_keeps] at hf
 refine ⟨r1,r2, ?_, ?_,hy,h.lx.snoc (Or.inr (Or.inr ⟨n,by omega,rfl⟩)) (fun e=>absurd e (by simp [takeN,cutP])) (by simp only [takeN];omega) (by simp [takeN,cutP]),h.ly, ?_, ?_⟩
 ·show frm (rdA (cutP (m - n)) o)=frm (rdA (keepP d (m2 - n)) u);omega
 ·show acts (X ++ [cutP n]) ++ (turnA (rdA (cutP (m - n)) o) (rdA (keepP d (m2 - n)) u)).1=_
  rw [acts_append,acts_one,actsP_cut,← hx];simp
 ·simp only [List.length_append,List.length_cons,List.length_nil];omega
 ·omega
theorem turnI_kc {a b X Y:List Pt} {p:Pt} {o:List Pt} {q:Pt} {u:List Pt} (h:TurnI a b X Y p o q u) (hp:TP p) (hk:p.k=1) (hq:TP q) (hj1:q.k≠1) (hj2:q.k≠2) {n:Int} (h0:0 < n) (h1:n≤p.n) (h2:n≤q.n) (hn:n=p.n∨n=q.n) :
  TurnI a b X (Y ++ [takeN q n]) (restN p n) o (restN q n) u:=by
 have cb:=cnt_both hp (by omega) hq hj2 hn o u
 have r1:=h.rp.rest hp (by omega) h0 h1
 have r2:=h.rq.rest hq hj2 h0 h2
 have n8:=h.rq.n80.1
 have hx:=h.x;have hy:=h.y;have hf:=h.fr;have n1:=h.nx;have n2:=h.ny
 obtain ⟨c,m,hm,hc,rfl⟩:=hp.k1 hk
 obtain ⟨m2,hm2,rfl⟩:=hq.k3 hj1 hj2
 simp only [keepP,cutP] at h1 h2 n8
 have e1:rdA (keepP c m) o=List.replicate n.toNat (.keep c) ++ rdA (keepP c (m - n)) o:=by rw [rdA_keep,rdA_keep,rep_split _ (by omega) h1,List.append_assoc]
 have e2:rdA (cutP m2) u=List.replicate n.toNat .cut ++ rdA (cutP (m2 - n)) u:=by rw [rdA_cut,rdA_cut,rep_split _ (by omega) h2,List.append_assoc]
 rw [e1,e2,turn_kcs] at hx hy
 rw [e1,e2,frm_append,frm_append,frm_cuts,frm_keeps] at hf
 refine ⟨r1,r2, ?_,hx, ?_,h.lx,h.ly.snoc (Or.inr (Or.inr ⟨n,by omega,rfl⟩)) (fun e=>absurd e (by simp [takeN,cutP])) (by simp only [takeN];omega) (by simp [takeN,cutP]), ?_, ?_⟩
 ·show frm (rdA (keepP c (m - n)) o)=frm (rdA (cutP (m2 - n)) u);omega
 ·show acts (Y ++ [cutP n]) ++ (turnA (rdA (keepP c (m - n)) o) (rdA (cutP (m2 - n)) u)).2=_
  rw [acts_append,acts_one,actsP_cut,← hy];simp
 ·omega
 ·simp only [List.length_append,List.length_cons,List.length_nil];omega
theorem turnI_cc {a b X Y:List Pt} {p:Pt} {o:List Pt} {q:Pt} {u:List Pt} (h:TurnI a b X Y p o q u) (hp:TP p) (hk1:p.k≠1) (hk2:p.k≠2) (hq:TP q) (hj1:q.k≠1) (hj2:q.k≠2) {n:Int} (h0:0 < n) (h1:n≤p.n) (h2:n≤q.n) (hn:n=p.n∨n=q.n) :
  TurnI a b X Y (restN p n) o (restN q n) u:=by
 have cb:=cnt_both hp hk2 hq hj2 hn o u
 have r1:=h.rp.rest hp hk2 h0 h1
 have r2:=h.rq.rest hq hj2 h0 h2
 have hx:=h.x;have hy:=h.y;have hf:=h.fr;have n1:=h.nx;have n2:=h.ny
 obtain ⟨m,hm,rfl⟩:=hp.k3 hk1 hk2
 obtain ⟨m2,hm2,rfl⟩:=hq.k3 hj1 hj2
 simp only [cutP] at h1 h2
 have e1:rdA (cutP m) o=List.replicate n.toNat .cut ++ rdA (cutP (m - n)) o:=by rw [rdA_cut,rdA_cut,rep_split _ (by omega) h1,List.append_assoc]
 have e2:rdA (cutP m2) u=List.replicate n.toNat .cut ++ rdA (cutP (m2 - n)) u:=by rw [rdA_cut,rdA_cut,rep_split _ (by omega) h2,List.append_assoc]
 rw [e1,e2,turn_ccs] at hx hy
 rw [e1,e2,frm_append,frm_append,frm_cuts] at hf
 refine ⟨r1,r2, ?_,hx,hy,h.lx,h.ly,by omega,by omega⟩
 show frm (rdA (cutP (m - n)) o)=frm (rdA (cutP (m2 - n)) u);omega
theorem TurnI.fin {a b X Y:List Pt} {p:Pt} {o:List Pt} {q:Pt} {u:List Pt} (h:TurnI a b X Y p o q u):Lok X∧Lok Y:=⟨h.lx.lok (by have:=h.nx;omega),h.ly.lok (by have:=h.ny;omega)⟩
theorem Lok.made {L:List Pt} (h:Lok L):madeP L=tidyA (acts L):=madeP_tidy L h.fm h.keep
end Go.Mh
namespace Go.Mh
theorem join_cs (n:Nat) (a b:List Ac):joinA (List.replicate n .cut ++ a) b=List.replicate n .cut ++ joinA a b:=by
 induction n with
 | zero=>rfl
 | succ n ih=>simp only [List.replicate_succ,List.cons_append,join_c,ih]
theorem join_qs (l:List It) (a b:List Ac) (h:∀ a',a≠.cut :: a'):joinA a (l.map .put ++ b)=l.map .put ++ joinA a b:=by
 induction l with
 | nil=>rfl
 | cons x l ih=>simp only [List.map_cons,List.cons_append,join_q h,ih]
theorem join_kks (n:Nat) (u t:Kd) (a b:List Ac):joinA (List.replicate n (.keep u) ++ a) (List.replicate n (.keep t) ++ b)=List.replicate n (.keep (bothK u t)) ++ joinA a b:=by
 induction n with
 | zero=>rfl
 | succ n ih=>simp only [List.replicate_succ,List.cons_append,join_kk,ih]
theorem join_kcs (n:Nat) (u:Kd) (a b:List Ac):joinA (List.replicate n (.keep u) ++ a) (List.replicate n .cut ++ b)=List.replicate n .cut ++ joinA a b:=by
 induction n with
 | zero=>rfl
 | succ n ih=>simp only [List.replicate_succ,List.cons_append,join_kc,ih]
theorem join_pks (l:List It) (t:Kd) (a b:List Ac):joinA (l.map .put ++ a) (List.replicate l.length (.keep t) ++ b)=(l.map (markI · t)).map .put ++ joinA a b:=by
 induction l with
 | nil=>rfl
 | cons x l ih=>simp only [List.map_cons,List.length_cons,List.replicate_succ,List.cons_append,join_pk,ih]
theorem join_pcs (l:List It) (a b:List Ac):joinA (l.map .put ++ a) (List.replicate l.length .cut ++ b)=joinA a b:=by
 induction l with
 | nil=>rfl
 | cons x l ih=>simp only [List.map_cons,List.length_cons,List.replicate_succ,List.cons_append,join_pc,ih]
structure JoinI (a b X:List Pt) (p:Pt) (o:List Pt) (q:Pt) (u:List Pt):Prop where
 rp:RdOk p o
 rq:RdOk q u
 fr:too (rdA p o)=frm (rdA q u)
 x:acts X ++ joinA (rdA p o) (rdA q u)=joinA (acts a) (acts b)
 lx:Lk X
 nx:X.length+cntR p o+cntR q u≤80
theorem joinI_start {a b:List Pt} (ha:OpOk a) (hb:OpOk b) (hf:too (acts a)=frm (acts b)):JoinI a b [] pt0 a pt0 b:=by
 have h1:=ha.len
 have h2:=hb.len
 exact ⟨RdOk.start ha,RdOk.start hb,hf,rfl,Lk.nil,by simp [cntR,pt0];omega⟩
theorem joinI_more {a b X:List Pt} {p:Pt} {o:List Pt} {q:Pt} {u:List Pt} (h:JoinI a b X p o q u) {m m2:Bool} {p' q':Pt} {o' u':List Pt} (e:moreR p o=(m,p',o')) (e2:moreR q u=(m2,q',u')) :
  JoinI a b X p' o' q' u'∧(m=true→TP p')∧(m=false→rdA p' o'=[])∧(m2=true→TP q')∧(m2=false→rdA q' u'=[]):=by
 obtain ⟨h1,h2,h3,h4,h5⟩:=h.rp.more e
 obtain ⟨g1,g2,g3,g4,g5⟩:=h.rq.more e2
 have n1:=h.nx
 exact ⟨⟨h1,g1,by rw [h2,g2];exact h.fr,by rw [h2,g2];exact h.x,h.lx,by omega⟩,h4,h5,g4,g5⟩
theorem joinI_p {a b X:List Pt} {p:Pt} {o:List Pt} {q:Pt} {u:List Pt} (h:JoinI a b X p o q u) (hp:TP p) (hk:p.k=3):JoinI a b (X ++ [p]) pt0 o q u:=by
 obtain ⟨n,hn,rfl⟩:=hp.k3 (by omega) (by omega)
 have hn8:=h.rp.n80.1
 have hx:=h.x;have hf:=h.fr;have n1:=h.nx
 rw [rdA_cut] at hx hf
 rw [join_cs] at hx
 rw [cntR_full hp] at n1
 refine ⟨h.rp.none,h.rq, ?_, ?_,h.lx.snoc hp.fm (fun e=>absurd e (by simp [cutP])) (by omega) (by simp [cutP]), ?_⟩
 ·rw [rdA_pt0,← hf,too_append,too_cuts];omega
 ·rw [rdA_pt0,acts_append,acts_one,actsP_cut,← hx];simp
 ·rw [cntR_pt0];simp;omega
theorem nocut {p:Pt} {o:List Pt} (h:TP p∧p.k≠3∨rdA p o=[]):∀ a',rdA p o≠.cut :: a':=by
 intro a' e
 rcases h with ⟨h,hk⟩ | h
 ·rcases h with ⟨c,n,hn,_,rfl⟩ | ⟨l,hl,_,rfl⟩ | ⟨n,hn,rfl⟩
  ·obtain ⟨m,hm⟩:∃ m,n.toNat=m+1:=⟨n.toNat - 1,by omega⟩
   rw [rdA_keep,hm] at e;simp [List.replicate_succ] at e
  ·cases l with
   | nil=>exact absurd rfl hl
   | cons x l=>rw [rdA_put] at e;simp at e
  ·simp [cutP] at hk
 ·rw [h] at e;simp at e
theorem joinI_q {a b X:List Pt} {p:Pt} {o:List Pt} {q:Pt} {u:List Pt} (h:JoinI a b X p o q u) (hn:∀ a',rdA p o≠.cut :: a') (hq:TP q) (hk:q.k=2):JoinI a b (X ++ [q]) p o pt0 u:=by
 obtain ⟨l,hl,hi,rfl⟩:=hq.k2 hk
 have hi8:=h.rq.i80.1
 have hx:=h.x;have hf:=h.fr;have n1:=h.nx
 rw [rdA_put] at hx hf
 rw [join_qs l _ _ hn] at hx
 rw [cntR_full hq] at n1
 refine ⟨h.rp,h.rq.none, ?_, ?_,h.lx.snoc hq.fm (fun e=>by simp [putP] at e) (by simp [putP]) (by omega), ?_⟩
 ·rw [rdA_pt0,hf,frm_append,frm_puts];omega
 ·rw [rdA_pt0,acts_append,acts_one,actsP_put,← hx];simp
 ·rw [cntR_pt0];simp;omega
theorem joinI_end {a b X:List Pt} {p:Pt} {o:List Pt} {q:Pt} {u:List Pt} (h:JoinI a b X p o q u) (hp:TP p∧p.k≠3∨rdA p o=[]) (hq:TP q∧q.k≠2∨rdA q u=[]) (he:rdA p o=[]∨rdA q u=[]) :
  acts X=joinA (acts a) (acts b):=by
 have hf:=h.fr
 have h1:rdA p o=[]:=by
  rcases hp with ⟨h1,h2⟩ | h1
  ·rcases he with he | he
   ·exact he
   ·have:=too_pos (o:=o) h1 h2;rw [hf,he] at this;simp [frm] at this
  ·exact h1
 have h2:rdA q u=[]:=by
  rcases hq with ⟨h2,h3⟩ | h2
  ·have:=frm_pos (o:=u) h2 h3;rw [← hf,h1] at this;simp [too] at this
  ·exact h2
 have hx:=h.x
 rw [h1,h2] at hx
 have e0:joinA [] []=[]:=rfl
 rw [e0] at hx
 simpa using hx
theorem joinI_kk {a b X:List Pt} {p:Pt} {o:List Pt} {q:Pt} {u:List Pt} (h:JoinI a b X p o q u) (hp:TP p) (hk:p.k=1) (hq:TP q) (hj:q.k=1) {n:Int} (h0:0 < n) (h1:n≤p.n) (h2:n≤q.n) (hn:n=p.n∨n=q.n) :
  JoinI a b (X ++ [bothP (takeN p n) (takeN q n)]) (restN p n) o (restN q n) u:=by
 have cb:=cnt_both hp (by omega) hq (by omega) hn o u
 have r1:=h.rp.rest hp (by omega) h0 h1
 have r2:=h.rq.rest hq (by omega) h0 h2
 have n8:=h.rp.n80.1
 have hx:=h.x;have hf:=h.fr;have n1:=h.nx
 obtain ⟨c,m,hm,hc,rfl⟩:=hp.k1 hk
 obtain ⟨d,m2,hm2,hd,rfl⟩:=hq.k1 hj
 simp only [keepP] at h1 h2 n8
 have e1:rdA (keepP c m) o=List.replicate n.toNat (.keep c) ++ rdA (keepP c (m - n)) o:=by rw [rdA_keep,rdA_keep,rep_split _ (by omega) h1,List.append_assoc]
 have e2:rdA (keepP d m2) u=List.replicate n.toNat (.keep d) ++ rdA (keepP d (m2 - n)) u:=by rw [rdA_keep,rdA_keep,rep_split _ (by omega) h2,List.append_assoc]
 rw [e1,e2,join_kks] at hx
 rw [e1,e2,too_append,frm_append,too_keeps,frm_keeps] at hf
 refine ⟨r1,r2, ?_, ?_,h.lx.snoc (Or.inl ⟨bothK c d,n,by omega,rfl⟩) (fun _=>h0) (by simp only [takeN,bothP];omega) (by simp [takeN,bothP,keepP]), ?_⟩
 ·show too (rdA (keepP c (m - n)) o)=frm (rdA (keepP d (m2 - n)) u);omega
 ·show acts (X ++ [keepP (bothK c d) n]) ++ joinA (rdA (keepP c (m - n)) o) (rdA (keepP d (m2 - n)) u)=_
  rw [acts_append,acts_one,actsP_keep,← hx];simp
 ·simp only [List.length_append,List.length_cons,List.length_nil];omega
theorem joinI_kc {a b X:List Pt} {p:Pt} {o:List Pt} {q:Pt} {u:List Pt} (h:JoinI a b X p o q u) (hp:TP p) (hk:p.k=1) (hq:TP q) (hj1:q.k≠1) (hj2:q.k≠2) {n:Int} (h0:0 < n) (h1:n≤p.n) (h2:n≤q.n) (hn:n=p.n∨n=q.n) :
  JoinI a b (X ++ [takeN q n]) (restN p n) o (restN q n) u:=by
 have cb:=cnt_both hp (by omega) hq hj2 hn o u
 have r1:=h.rp.rest hp (by omega) h0 h1
 have r2:=h.rq.rest hq hj2 h0 h2
 have n8:=h.rq.n80.1
 have hx:=h.x;have hf:=h.fr;have n1:=h.nx
 obtain ⟨c,m,hm,hc,rfl⟩:=hp.k1 hk
 obtain ⟨m2,hm2,rfl⟩:=hq.k3 hj1 hj2
 simp only [keepP,cutP] at h1 h2 n8
 have e1:rdA (keepP c m) o=List.replicate n.toNat (.keep c) ++ rdA (keepP c (m - n)) o:=by rw [rdA_keep,rdA_keep,rep_split _ (by omega) h1,List.append_assoc]
 have e2:rdA (cutP m2) u=List.replicate n.toNat .cut ++ rdA (cutP (m2 - n)) u:=by rw [rdA_cut,rdA_cut,rep_split _ (by omega) h2,List.append_assoc]
 rw [e1,e2,join_kcs] at hx
 rw [e1,e2,too_append,frm_append,too_keeps,frm_cuts] at hf
 refine ⟨r1,r2, ?_, ?_,h.lx.snoc (Or.inr (Or.inr ⟨n,by omega,rfl⟩)) (fun e=>absurd e (by simp [takeN,cutP])) (by simp only [takeN];omega) (by simp [takeN,cutP]), ?_⟩
 ·show too (rdA (keepP c (m - n)) o)=frm (rdA (cutP (m2 - n)) u);omega
 ·show acts (X ++ [cutP n]) ++ joinA (rdA (keepP c (m - n)) o) (rdA (cutP (m2 - n)) u)=_
  rw [acts_append,acts_one,actsP_cut,← hx];simp
 ·simp only [List.length_append,List.length_cons,List.length_nil];omega
def dropI (p:Pt) (n:Nat):Pt:={ p with its:=p.its.drop n }
theorem RdOk.dropI {p:Pt} {o:List Pt} (h:RdOk p o) (hp:TP p) (hk:p.k=2) (n:Nat):RdOk (Mh.dropI p n) o:=by
 obtain ⟨l,hl,hi,rfl⟩:=hp.k2 hk
 refine ⟨?_,h.tp,h.n80,⟨by have:=h.i80.1;simp only [Mh.dropI,putP,List.length_drop] at this ⊢;omega,h.i80.2⟩⟩
 by_cases e:l.drop n=[]
 ·exact Or.inl ⟨rfl,e⟩
 ·exact Or.inr (Or.inr (Or.inl ⟨l.drop n,e,fun x hx=>hi x (List.mem_of_mem_drop hx),rfl⟩))
theorem cntR_drop {p:Pt} (n:Nat) (o:List Pt):cntR (dropI p n) o≤1+o.length:=by unfold cntR;split <;> omega
theorem cnt_drop {p q:Pt} (hp:TP p) (hk:p.k=2) (hq:TP q) (hj:q.k≠2) {n:Nat} (hn:n=p.its.length∨(n:Int)=q.n) (o u:List Pt):cntR (dropI p n) o+cntR (restN q n) u+1≤cntR p o+cntR q u:=by
 rw [cntR_full hp,cntR_full hq]
 have h1:=cntR_drop (p:=p) n o
 have h2:=cntR_rest hq n u
 rcases hn with rfl | hn
 ·obtain ⟨l,hl,hi,rfl⟩:=hp.k2 hk
  have:cntR (dropI (putP l) (putP l).its.length) o=o.length:=by simp [cntR,dropI,putP]
  omega
 ·rw [hn,cntR_gone hq hj];omega
theorem joinI_pc {a b X:List Pt} {p:Pt} {o:List Pt} {q:Pt} {u:List Pt} (h:JoinI a b X p o q u) (hp:TP p) (hk:p.k=2) (hq:TP q) (hj1:q.k≠1) (hj2:q.k≠2) {n:Nat} (h0:0 < n) (h1:n≤p.its.length) (h2:(n:Int)≤q.n) (hn:n=p.its.length∨(n:Int)=q.n) :
  JoinI a b X (dropI p n) o (restN q n) u:=by
 have cb:=cnt_drop hp hk hq hj2 hn o u
 have r1:=h.rp.dropI hp hk n
 have r2:=h.rq.rest hq hj2 (by omega:(0:Int) < n) h2
 have hx:=h.x;have hf:=h.fr;have n1:=h.nx
 obtain ⟨l,hl,hi,rfl⟩:=hp.k2 hk
 obtain ⟨m2,hm2,rfl⟩:=hq.k3 hj1 hj2
 simp only [putP,cutP] at h1 h2
 have hl':(l.take n).length=n:=by simp;omega
 have e1:rdA (putP l) o=(l.take n).map .put ++ rdA (putP (l.drop n)) o:=by rw [rdA_put,rdA_put,← List.append_assoc,← List.map_append,List.take_append_drop]
 have e2:rdA (cutP m2) u=List.replicate (l.take n).length .cut ++ rdA (cutP (m2 - n)) u:=by rw [rdA_cut,rdA_cut,rep_split _ (by omega) h2,List.append_assoc,hl'];simp
 rw [e1,e2,join_pcs] at hx
 rw [e1,e2,too_append,frm_append,too_puts,frm_cuts] at hf
 refine ⟨r1,r2, ?_,hx,h.lx,by omega⟩
 show too (rdA (putP (l.drop n)) o)=frm (rdA (cutP (m2 - n)) u);omega
theorem joinI_pk {a b X:List Pt} {p:Pt} {o:List Pt} {q:Pt} {u:List Pt} (h:JoinI a b X p o q u) (hp:TP p) (hk:p.k=2) (hq:TP q) (hj:q.k=1) {n:Nat} (h0:0 < n) (h1:n≤p.its.length) (h2:(n:Int)≤q.n) (hn:n=p.its.length∨(n:Int)=q.n) :
  JoinI a b (X ++ [putP ((p.its.take n).map (markI · q.kd))]) (dropI p n) o (restN q n) u:=by
 have cb:=cnt_drop hp hk hq (by omega) hn o u
 have r1:=h.rp.dropI hp hk n
 have r2:=h.rq.rest hq (by omega) (by omega:(0:Int) < n) h2
 have i8:=h.rp.i80.1
 have hx:=h.x;have hf:=h.fr;have n1:=h.nx
 obtain ⟨l,hl,hi,rfl⟩:=hp.k2 hk
 obtain ⟨d,m2,hm2,hd,rfl⟩:=hq.k1 hj
 simp only [putP,keepP] at h1 h2 i8
 have hl':(l.take n).length=n:=by simp;omega
 have e1:rdA (putP l) o=(l.take n).map .put ++ rdA (putP (l.drop n)) o:=by rw [rdA_put,rdA_put,← List.append_assoc,← List.map_append,List.take_append_drop]
 have e2:rdA (keepP d m2) u=List.replicate (l.take n).length (.keep d) ++ rdA (keepP d (m2 - n)) u:=by rw [rdA_keep,rdA_keep,rep_split _ (by omega) h2,List.append_assoc,hl'];simp
 rw [e1,e2,join_pks] at hx
 rw [e1,e2,too_append,frm_append,too_puts,frm_keeps] at hf
 refine ⟨r1,r2, ?_, ?_,h.lx.snoc (Or.inr (Or.inl ⟨_,rfl⟩)) (fun e=>by simp [putP] at e) (by simp [putP]) (by simp [putP];omega), ?_⟩
 ·show too (rdA (putP (l.drop n)) o)=frm (rdA (keepP d (m2 - n)) u);omega
 ·show acts (X ++ [putP ((l.take n).map (markI · d))]) ++ joinA (rdA (putP (l.drop n)) o) (rdA (keepP d (m2 - n)) u)=_
  rw [acts_append,acts_one,actsP_put,← hx];simp
 ·simp only [List.length_append,List.length_cons,List.length_nil];omega
theorem JoinI.fin {a b X:List Pt} {p:Pt} {o:List Pt} {q:Pt} {u:List Pt} (h:JoinI a b X p o q u):Lok X:=h.lx.lok (by have:=h.nx;omega)
end Go.Mh
namespace Go.Mh
def chkEn (x:En):Int:=if x.client < 0∨4≤x.client then 5 else if x.seq < 1∨10000 < x.seq then 3 else chkOp x.o
def foldG (d:List It):List En→List It × Int
 | []=>(d,0)
 | x :: l=>if (applyP d x.o).2≠0 then ([],(applyP d x.o).2) else foldG (applyP d x.o).1 l
def foldP (d:List It) (l:List En):List It × Int:=if chkDoc d≠0 then ([],chkDoc d) else if 60 < l.length then ([],2) else foldG d l
def chkEns:List En→Int
 | []=>0
 | x :: l=>if chkEn x≠0 then chkEn x else chkEns l
def chkSrv (s:Srv):Int:=
 if 60 < s.log.length then 2
 else if chkEns s.log≠0 then chkEns s.log
 else if (foldP s.first s.log).2≠0 then (foldP s.first s.log).2
 else if (foldP s.first s.log).1=s.now then 0 else 4
def hasP (l:List En) (client seq:Int):Bool:=l.any fun x=>x.client == client && x.seq == seq
def rebase (o:List Pt):List En→List Pt × Int
 | []=>(o,0)
 | l :: ls=>if (turnP l.o o).2.2≠0 then ([],(turnP l.o o).2.2) else rebase (turnP l.o o).2.1 ls
def srv0:Srv:=⟨[],[],[]⟩
def takeQ (s:Srv) (rev:Int) (x:En):Srv × Int:=
 if rev < 0∨(s.log.length:Int) < rev then (srv0,6)
 else if s.log.length=60 then (srv0,2)
 else if (rebase x.o (s.log.drop rev.toNat)).2≠0 then (srv0,(rebase x.o (s.log.drop rev.toNat)).2)
 else if (applyP s.now (rebase x.o (s.log.drop rev.toNat)).1).2≠0 then (srv0,(applyP s.now (rebase x.o (s.log.drop rev.toNat)).1).2)
 else (⟨s.first,s.log ++ [⟨x.client,x.seq,(rebase x.o (s.log.drop rev.toNat)).1⟩],(applyP s.now (rebase x.o (s.log.drop rev.toNat)).1).1⟩,0)
def takeP (s:Srv) (rev:Int) (x:En):Srv × Int:=
 if chkSrv s≠0 then (srv0,chkSrv s) else if chkEn x≠0 then (srv0,chkEn x) else if hasP s.log x.client x.seq=true then (s,0) else takeQ s rev x
theorem chkEns_all {l:List En} (h:chkEns l=0):∀ x ∈ l,chkEn x=0:=by
 induction l with
 | nil=>intro x hx;simp at hx
 | cons y l ih =>
  simp only [chkEns] at h
  split at h
  ·rename_i h0;exact absurd h h0
  ·rename_i h0
   intro x hx
   rcases List.mem_cons.1 hx with rfl | hx
   ·exact Decidable.not_not.1 h0
   ·exact ih h x hx
theorem chkEns_mk {l:List En} (h:∀ x ∈ l,chkEn x=0):chkEns l=0:=by
 induction l with
 | nil=>rfl
 | cons y l ih=>simp only [chkEns];rw [if_neg (by simp [h y (List.mem_cons_self ..)])];exact ih fun x hx=>h x (List.mem_cons_of_mem _ hx)
structure SrvOk (s:Srv):Prop where
 len:s.log.length≤60
 ens:∀ x ∈ s.log,chkEn x=0
 doc:chkDoc s.first=0
 fold:foldG s.first s.log=(s.now,0)
theorem SrvOk.of {s:Srv} (h:chkSrv s=0):SrvOk s:=by
 unfold chkSrv at h
 split at h;· simp at h
 rename_i h1
 split at h;· rename_i h2;exact absurd h h2
 rename_i h2
 split at h;· rename_i h3;exact absurd h h3
 rename_i h3
 split at h
 ·rename_i h4
  have h3':=Decidable.not_not.1 h3
  have hd:chkDoc s.first=0:=by
   unfold foldP at h3'
   split at h3'
   ·rename_i hd;exact absurd h3' hd
   ·rename_i hd;exact Decidable.not_not.1 hd
  have e:foldP s.first s.log=foldG s.first s.log:=by simp [foldP,hd];omega
  rw [e] at h3' h4
  exact ⟨by omega,chkEns_all (Decidable.not_not.1 h2),hd,by rw [← h3',← h4]⟩
 ·simp at h
theorem SrvOk.chk {s:Srv} (h:SrvOk s):chkSrv s=0:=by
 have h1:=h.len
 have e:foldP s.first s.log=(s.now,0):=by simp [foldP,h.doc,h.fold];omega
 unfold chkSrv
 rw [if_neg (by omega),if_neg (by rw [chkEns_mk h.ens];simp),if_neg (by rw [e];simp),if_pos (by rw [e])]
theorem SrvOk.foldP {s:Srv} (h:SrvOk s):Mh.foldP s.first s.log=(s.now,0):=by
 have h1:=h.len
 simp [Mh.foldP,h.doc,h.fold];omega
theorem foldG_app (d:List It) (l m:List En):foldG d (l ++ m)=if (foldG d l).2≠0 then ([],(foldG d l).2) else foldG (foldG d l).1 m:=by
 induction l generalizing d with
 | nil=>simp [foldG]
 | cons x l ih =>
  simp only [List.cons_append,foldG]
  split
  ·rfl
  ·exact ih _
theorem foldG_doc {d d':List It} {l:List En} (h:foldG d l=(d',0)) (hd:chkDoc d=0):chkDoc d'=0:=by
 induction l generalizing d with
 | nil=>simp [foldG] at h;rw [← h];exact hd
 | cons x l ih =>
  simp only [foldG] at h
  split at h
  ·rename_i h1;simp at h;exact absurd h.2 h1
  ·rename_i h1
   have ha:=Applies.of (Decidable.not_not.1 h1)
   rw [ha.eq] at h
   exact ih h ha.res.1
theorem foldG_take {d d':List It} {l m:List En} (h:foldG d (l ++ m)=(d',0)):∃ e,foldG d l=(e,0)∧foldG e m=(d',0):=by
 rw [foldG_app] at h
 split at h
 ·rename_i h1;simp at h;exact absurd h.2 h1
 ·rename_i h1
  exact ⟨(foldG d l).1,by rw [← Decidable.not_not.1 h1],h⟩
theorem takeP_cases {s t:Srv} {rev:Int} {x:En} (h:takeP s rev x=(t,0)):SrvOk s∧chkEn x=0∧((hasP s.log x.client x.seq=true∧t=s) ∨
  (hasP s.log x.client x.seq=false∧0≤rev∧rev≤s.log.length∧s.log.length < 60∧∃ o,rebase x.o (s.log.drop rev.toNat)=(o,0)∧Applies s.now o∧t=⟨s.first,s.log ++ [⟨x.client,x.seq,o⟩],doA s.now (acts o)⟩)):=by
 unfold takeP at h
 split at h;· rename_i h1;simp at h;exact absurd h.2 h1
 rename_i h1
 split at h;· rename_i h2;simp at h;exact absurd h.2 h2
 rename_i h2
 have hs:=SrvOk.of (Decidable.not_not.1 h1)
 refine ⟨hs,Decidable.not_not.1 h2, ?_⟩
 split at h
 ·rename_i h3;simp at h;exact Or.inl ⟨h3,h.symm⟩
 ·rename_i h3
  right
  unfold takeQ at h
  split at h;· simp at h
  rename_i h4
  split at h;· simp at h
  rename_i h5
  split at h;· rename_i h6;simp at h;exact absurd h.2 h6
  rename_i h6
  split at h;· rename_i h7;simp at h;exact absurd h.2 h7
  rename_i h7
  have hl:=hs.len
  have ha:=Applies.of (Decidable.not_not.1 h7)
  rw [ha.eq] at h
  simp at h
  exact ⟨by simpa using h3,by omega,by omega,by omega,(rebase x.o (s.log.drop rev.toNat)).1,by rw [← Decidable.not_not.1 h6],ha,h.symm⟩
theorem law_folds {s t:Srv} {rev:Int} {x:En} (h:takeP s rev x=(t,0)) :
  chkSrv t=0∧s.log.length≤t.log.length∧t.log.length≤s.log.length+1∧t.log.take s.log.length=s.log∧hasP t.log x.client x.seq=true∧(t.log.length=s.log.length→t=s)∧takeP t rev x=(t,0)∧foldP t.first t.log=(t.now,0):=by
 obtain ⟨hs,hx,h | h⟩:=takeP_cases h
 ·obtain ⟨h1,rfl⟩:=h
  refine ⟨hs.chk,by omega,by omega,by simp,h1,fun _=>rfl, ?_,hs.foldP⟩
  simp [takeP,hs.chk,hx,h1]
 ·obtain ⟨h1,h2,h3,h4,o,h5,h6,rfl⟩:=h
  have hc:hasP (s.log ++ [⟨x.client,x.seq,o⟩]) x.client x.seq=true:=by simp [hasP]
  have ht:SrvOk ⟨s.first,s.log ++ [⟨x.client,x.seq,o⟩],doA s.now (acts o)⟩:=by
   refine ⟨by simp;omega,fun y hy=>?_,hs.doc, ?_⟩
   ·rcases List.mem_append.1 hy with hy | hy
    ·exact hs.ens y hy
    ·simp at hy
     subst hy
     unfold chkEn at hx ⊢
     split at hx;· simp at hx
     rename_i a1
     split at hx;· simp at hx
     rename_i a2
     simp only [if_neg a1,if_neg a2]
     exact h6.op
   ·show foldG s.first (s.log ++ _)=_
    rw [foldG_app,hs.fold]
    simp [foldG,h6.eq]
  refine ⟨ht.chk,by simp,by simp,by simp,hc,fun h=>by simp at h, ?_,ht.foldP⟩
  simp only [takeP,ht.chk,hx,hc]
  simp
def ownsP (d:List It) (sent held:List Pt):List It × Int:=
 if sent=[] then (if held=[] then (d,0) else applyP d held)
 else if (applyP d sent).2≠0 then ([],(applyP d sent).2)
 else if held=[] then applyP d sent else applyP (applyP d sent).1 held
def chkCl (c:Cl):Int:=
 if c.rev < 0∨60 < c.rev∨c.seq < 0∨10000 < c.seq then 3
 else if chkDoc c.base≠0 then chkDoc c.base
 else if (c.sent=[]∧c.held≠[])∨(c.sent≠[]∧c.seq=0) then 4
 else if (ownsP c.base c.sent c.held).2≠0 then (ownsP c.base c.sent c.held).2
 else if (ownsP c.base c.sent c.held).1=c.now then 0 else 4
def cl0:Cl:=⟨0,[],[],0,[],[],false⟩
def doC (c:Cl) (o:List Pt):Cl × Bool × Int:=
 if chkCl c≠0 then (cl0,false,chkCl c)
 else if (applyP c.now o).2≠0 then (cl0,false,(applyP c.now o).2)
 else if c.sent=[] then (if c.seq=10000 then (cl0,false,2) else ({ c with now:=(applyP c.now o).1,sent:=o,seq:=c.seq+1 },true,0))
 else if c.held=[] then ({ c with now:=(applyP c.now o).1,held:=o },false,0)
 else if (joinP c.held o).2≠0 then (cl0,false,(joinP c.held o).2)
 else ({ c with now:=(applyP c.now o).1,held:=(joinP c.held o).1 },false,0)
def giveC (c:Cl):Cl:={ c with sent:=[],held:=[],now:=c.base }
def turn2 (o sent held:List Pt):Option (List Pt × List Pt):=
 if sent=[] then some ([],held)
 else if (turnP o sent).2.2≠0 then none
 else if held=[] then some ((turnP o sent).2.1,[])
 else if (turnP (turnP o sent).1 held).2.2≠0 then none
 else some ((turnP o sent).2.1,(turnP (turnP o sent).1 held).2.1)
def owns2 (d:List It) (sent held:List Pt):List It × Int:=
 if sent=[] then (d,0)
 else if (applyP d sent).2≠0 then ([],(applyP d sent).2)
 else if held=[] then applyP d sent else applyP (applyP d sent).1 held
def otherC (c:Cl) (o:List Pt):Cl:=
 if (applyP c.base o).2≠0 then c
 else match turn2 o c.sent c.held with
  | none=>giveC { c with base:=(applyP c.base o).1,rev:=c.rev+1 }
  | some (s,h)=>if (owns2 (applyP c.base o).1 s h).2≠0 then giveC { c with base:=(applyP c.base o).1,rev:=c.rev+1 }
   else { c with base:=(applyP c.base o).1,rev:=c.rev+1,sent:=s,held:=h,now:=(owns2 (applyP c.base o).1 s h).1 }
def hearC (c:Cl) (who:Int) (m:Msg):Cl × Bool × Int:=
 if chkCl c≠0 then (cl0,false,chkCl c)
 else if m.e.o=[] then (if m.e.client=who∧m.e.seq=c.seq∧c.sent≠[] then (giveC c,false,0) else (c,false,0))
 else if chkOp m.e.o≠0 then (cl0,false,chkOp m.e.o)
 else if m.rev≠c.rev+1∨c.rev=60 then (c,false,0)
 else if ¬ (m.e.client=who∧m.e.seq=c.seq∧c.sent≠[]) then (otherC c m.e.o,false,0)
 else if (applyP c.base m.e.o).2≠0 then (cl0,false,(applyP c.base m.e.o).2)
 else if c.held=[] then ({ c with base:=(applyP c.base m.e.o).1,rev:=c.rev+1,sent:=[],held:=[],now:=(applyP c.base m.e.o).1 },false,0)
 else if c.seq=10000∨(applyP (applyP c.base m.e.o).1 c.held).2≠0 then (giveC { c with base:=(applyP c.base m.e.o).1,rev:=c.rev+1 },false,0)
 else ({ c with base:=(applyP c.base m.e.o).1,rev:=c.rev+1,sent:=c.held,held:=[],now:=(applyP (applyP c.base m.e.o).1 c.held).1,seq:=c.seq+1 },true,0)
structure ClOk (c:Cl):Prop where
 r0:0≤c.rev
 r60:c.rev≤60
 s0:0≤c.seq
 s1:c.seq≤10000
 doc:chkDoc c.base=0
 hs:c.sent=[]→c.held=[]
 sq:c.sent≠[]→c.seq≠0
 own:ownsP c.base c.sent c.held=(c.now,0)
theorem ClOk.of {c:Cl} (h:chkCl c=0):ClOk c:=by
 unfold chkCl at h
 split at h;· simp at h
 rename_i h1
 split at h;· rename_i h2;exact absurd h h2
 rename_i h2
 split at h;· simp at h
 rename_i h3
 split at h;· rename_i h4;exact absurd h h4
 rename_i h4
 split at h
 ·rename_i h5
  refine ⟨by omega,by omega,by omega,by omega,Decidable.not_not.1 h2,fun a=>?_,fun a b=>h3 (Or.inr ⟨a,b⟩), ?_⟩
  ·by_cases hh:c.held=[]
   ·exact hh
   ·exact absurd (Or.inl ⟨a,hh⟩) h3
  ·rw [← Decidable.not_not.1 h4,← h5]
 ·simp at h
theorem ClOk.chk {c:Cl} (h:ClOk c):chkCl c=0:=by
 have h1:=h.r0;have h2:=h.r60;have h3:=h.s0;have h4:=h.s1
 unfold chkCl
 rw [if_neg (by omega),if_neg (by simp [h.doc]),if_neg,if_neg (by simp [h.own]),if_pos (by rw [h.own])]
 rintro (⟨a,b⟩ | ⟨a,b⟩)
 ·exact b (h.hs a)
 ·exact h.sq a b
theorem ClOk.cases {c:Cl} (h:ClOk c):(c.sent=[]∧c.held=[]∧c.now=c.base)∨(c.sent≠[]∧c.held=[]∧Applies c.base c.sent∧c.now=doA c.base (acts c.sent)) ∨
  (c.sent≠[]∧c.held≠[]∧Applies c.base c.sent∧Applies (doA c.base (acts c.sent)) c.held∧c.now=doA (doA c.base (acts c.sent)) (acts c.held)):=by
 have ho:=h.own
 unfold ownsP at ho
 by_cases hs:c.sent=[]
 ·have hh:=h.hs hs
  simp [hs,hh] at ho
  exact Or.inl ⟨hs,hh,ho.symm⟩
 ·rw [if_neg hs] at ho
  split at ho;· rename_i h1;simp at ho;exact absurd ho.2 h1
  rename_i h1
  have ha:=Applies.of (Decidable.not_not.1 h1)
  right
  by_cases hh:c.held=[]
  ·rw [if_pos hh,ha.eq] at ho
   simp at ho
   exact Or.inl ⟨hs,hh,ha,ho.symm⟩
  ·rw [if_neg hh,ha.eq] at ho
   have hb:=Applies.of (d:=doA c.base (acts c.sent)) (o:=c.held) (by rw [ho])
   rw [hb.eq] at ho
   simp at ho
   exact Or.inr ⟨hs,hh,ha,hb,ho.symm⟩
theorem ClOk.ndoc {c:Cl} (h:ClOk c):chkDoc c.now=0:=by
 rcases h.cases with ⟨_,_,e⟩ | ⟨_,_,ha,e⟩ | ⟨_,_,_,hb,e⟩
 ·rw [e];exact h.doc
 ·rw [e];exact ha.res.1
 ·rw [e];exact hb.res.1
theorem law_do {c x:Cl} {o:List Pt} {b:Bool} (h:doC c o=(x,b,0)):ClOk c∧Applies c.now o∧ClOk x∧x.now=doA c.now (acts o)∧x.base=c.base∧x.rev=c.rev∧x.joined=c.joined∧x.sent≠[] ∧
  (c.sent≠[]→x.sent=c.sent∧x.seq=c.seq∧x.held≠[]∧b=false)∧(c.sent=[]→b=true∧x.sent=o∧x.held=[]∧x.seq=c.seq+1):=by
 unfold doC at h
 split at h;· rename_i h1;simp at h;exact absurd h.2.2 h1
 rename_i h1
 have hc:=ClOk.of (Decidable.not_not.1 h1)
 split at h;· rename_i h2;simp at h;exact absurd h.2.2 h2
 rename_i h2
 have ha:=Applies.of (Decidable.not_not.1 h2)
 have hone:=(chkOp_ok ha.op).ne
 rw [ha.eq] at h
 have hs0:=hc.s0;have hs1:=hc.s1
 split at h
 ·rename_i h3
  split at h;· simp at h
  rename_i h4
  have hh:=hc.hs h3
  have hn:c.now=c.base:=by
   rcases hc.cases with ⟨_,_,e⟩ | ⟨a,_⟩ | ⟨a,_⟩
   ·exact e
   ·exact absurd h3 a
   ·exact absurd h3 a
  simp at h
  obtain ⟨rfl,rfl⟩:=h
  rw [hn] at ha
  refine ⟨hc,by rw [hn];exact ha,⟨hc.r0,hc.r60,by simp;omega,by simp;omega,hc.doc,fun _=>hh,fun _=>by simp;omega, ?_⟩,rfl,rfl,rfl,rfl,hone,fun a=>absurd h3 a,fun _=>⟨rfl,rfl,hh,rfl⟩⟩
  simp only [ownsP,hone,hh,ha.eq,hn]
  simp
 ·rename_i h3
  split at h
  ·rename_i h4
   simp at h
   obtain ⟨rfl,rfl⟩:=h
   obtain ⟨hb,hn⟩:Applies c.base c.sent∧c.now=doA c.base (acts c.sent):=by
    rcases hc.cases with ⟨a,_⟩ | ⟨_,_,a,e⟩ | ⟨_,a,_⟩
    ·exact absurd a h3
    ·exact ⟨a,e⟩
    ·exact absurd h4 a
   refine ⟨hc,ha,⟨hc.r0,hc.r60,hc.s0,hc.s1,hc.doc,fun a=>absurd a h3,hc.sq, ?_⟩,rfl,rfl,rfl,rfl,h3,fun _=>⟨rfl,rfl,hone,rfl⟩,fun a=>absurd a h3⟩
   rw [hn] at ha
   simp only [ownsP,h3,hb.eq,hone,ha.eq,hn]
   simp
  ·rename_i h4
   split at h;· rename_i h5;simp at h;exact absurd h.2.2 h5
   rename_i h5
   simp at h
   obtain ⟨rfl,rfl⟩:=h
   obtain ⟨hb,hb2,hn⟩:Applies c.base c.sent∧Applies (doA c.base (acts c.sent)) c.held∧c.now=doA (doA c.base (acts c.sent)) (acts c.held):=by
    rcases hc.cases with ⟨a,_⟩ | ⟨_,a,_⟩ | ⟨_,_,a,b,e⟩
    ·exact absurd a h3
    ·exact absurd a h4
    ·exact ⟨a,b,e⟩
   have ha':=ha
   rw [hn] at ha'
   rcases law_joins hb2 ha' with h6 | ⟨hj,hja,hjd⟩
   ·exact absurd (Decidable.not_not.1 h5) (by rw [h6];decide)
   have hjne:(joinP c.held o).1≠[]:=(chkOp_ok hja.op).ne
   refine ⟨hc,ha,⟨hc.r0,hc.r60,hc.s0,hc.s1,hc.doc,fun a=>absurd a h3,hc.sq, ?_⟩,rfl,rfl,rfl,rfl,h3,fun _=>⟨rfl,rfl,hjne,rfl⟩,fun a=>absurd a h3⟩
   simp only [ownsP,h3,hb.eq,hjne,hja.eq,hjd,hn]
   simp
theorem give_ok {c:Cl} (h0:0≤c.rev) (h1:c.rev≤60) (h2:0≤c.seq) (h3:c.seq≤10000) (hd:chkDoc c.base=0):ClOk (giveC c):=
 ⟨h0,h1,h2,h3,hd,fun _=>rfl,fun h=>absurd rfl h,by simp [ownsP,giveC]⟩
theorem turn2_cases {o sent held s h:List Pt} (ht:turn2 o sent held=some (s,h)):(sent=[]∧s=[]∧h=held)∨(sent≠[]∧held=[]∧Turns o sent∧s=(turnP o sent).2.1∧h=[]) ∨
  (sent≠[]∧held≠[]∧Turns o sent∧Turns (turnP o sent).1 held∧s=(turnP o sent).2.1∧h=(turnP (turnP o sent).1 held).2.1):=by
 unfold turn2 at ht
 split at ht
 ·rename_i h1;simp only [Option.some.injEq,Prod.mk.injEq] at ht;exact Or.inl ⟨h1,ht.1.symm,ht.2.symm⟩
 ·rename_i h1
  split at ht;· simp at ht
  rename_i h2
  have t1:=Turns.of (Decidable.not_not.1 h2)
  split at ht
  ·rename_i h3;simp only [Option.some.injEq,Prod.mk.injEq] at ht;exact Or.inr (Or.inl ⟨h1,h3,t1,ht.1.symm,ht.2.symm⟩)
  ·rename_i h3
   split at ht;· simp at ht
   rename_i h4
   simp only [Option.some.injEq,Prod.mk.injEq] at ht
   exact Or.inr (Or.inr ⟨h1,h3,t1,Turns.of (Decidable.not_not.1 h4),ht.1.symm,ht.2.symm⟩)
theorem Turns.ne {a b:List Pt} (h:Turns a b):(turnP a b).1≠[]∧(turnP a b).2.1≠[]∧chkOp (turnP a b).1=0∧chkOp (turnP a b).2.1=0:=by
 rw [h.eq];exact ⟨(chkOp_ok h.cx).ne,(chkOp_ok h.cy).ne,h.cx,h.cy⟩
theorem owns2_ok {d:List It} {s h:List Pt} (hsh:s=[]→h=[]) (hn:(owns2 d s h).2=0):ownsP d s h=((owns2 d s h).1,0):=by
 unfold owns2 at hn ⊢
 unfold ownsP
 by_cases hs:s=[]
 ·simp [hs,hsh hs]
 ·simp only [if_neg hs] at hn ⊢
  split at hn;· rename_i h1;exact absurd hn h1
  rename_i h1
  simp only [if_neg h1]
  by_cases hh:h=[]
  ·simp only [if_pos hh] at hn ⊢;rw [← hn]
  ·simp only [if_neg hh] at hn ⊢;rw [← hn]
theorem other_ok {c:Cl} {o:List Pt} (hc:ClOk c) (hr:c.rev≠60):ClOk (otherC c o)∧(otherC c o).joined=c.joined∧(otherC c o).seq=c.seq ∧
  (((applyP c.base o).2≠0∧otherC c o=c)∨((applyP c.base o).2=0∧(otherC c o).rev=c.rev+1∧(otherC c o).base=(applyP c.base o).1)):=by
 have h0:=hc.r0;have h1:=hc.r60
 unfold otherC
 split
 ·rename_i h;exact ⟨hc,rfl,rfl,Or.inl ⟨h,rfl⟩⟩
 ·rename_i h
  have h':=Decidable.not_not.1 h
  have ha:=Applies.of h'
  have hd:chkDoc (applyP c.base o).1=0:=by rw [ha.eq];exact ha.res.1
  have hg:ClOk (giveC { c with base:=(applyP c.base o).1,rev:=c.rev+1 }):=give_ok (by simp;omega) (by simp;omega) hc.s0 hc.s1 hd
  split
  ·exact ⟨hg,rfl,rfl,Or.inr ⟨h',rfl,rfl⟩⟩
  ·rename_i s hh ht
   split
   ·exact ⟨hg,rfl,rfl,Or.inr ⟨h',rfl,rfl⟩⟩
   ·rename_i hn
    have hsh:s=[]→hh=[]:=by
     rcases turn2_cases ht with ⟨a,_,b⟩ | ⟨_,_,_,_,b⟩ | ⟨_,_,t1,t2,a,b⟩
     ·intro _;rw [b];exact hc.hs a
     ·intro _;exact b
     ·intro e;rw [a] at e;exact absurd e t1.ne.2.1
    refine ⟨⟨by simp;omega,by simp;omega,hc.s0,hc.s1,hd,hsh,fun a=>?_,owns2_ok hsh (Decidable.not_not.1 hn)⟩,rfl,rfl,Or.inr ⟨h',rfl,rfl⟩⟩
    refine hc.sq ?_
    rcases turn2_cases ht with ⟨_,b,_⟩ | ⟨b,_⟩ | ⟨b,_⟩
    ·exact absurd b a
    ·exact b
    ·exact b
theorem law_hear {c y:Cl} {who:Int} {m:Msg} {b:Bool} (h:hearC c who m=(y,b,0)):ClOk y∧c.rev≤y.rev∧y.rev≤c.rev+1∧(b=true→y.sent≠[]∧y.seq=c.seq+1)∧y.joined=c.joined ∧
  (y.rev=c.rev→y.base=c.base)∧(y.rev≠c.rev→applyP c.base m.e.o=(y.base,0)):=by
 unfold hearC at h
 split at h;· rename_i h1;simp at h;exact absurd h.2.2 h1
 rename_i h1
 have hc:=ClOk.of (Decidable.not_not.1 h1)
 have r0:=hc.r0;have r1:=hc.r60;have s0:=hc.s0;have s1:=hc.s1
 split at h
 ·split at h
  ·simp at h
   obtain ⟨rfl,rfl⟩:=h
   exact ⟨give_ok hc.r0 hc.r60 hc.s0 hc.s1 hc.doc,by simp [giveC],by simp only [giveC];omega,by simp,rfl,fun _=>rfl,fun a=>absurd rfl a⟩
  ·simp at h
   obtain ⟨rfl,rfl⟩:=h
   exact ⟨hc,by simp,by omega,by simp,rfl,fun _=>rfl,fun a=>absurd rfl a⟩
 split at h;· rename_i h2;simp at h;exact absurd h.2.2 h2
 split at h
 ·simp at h
  obtain ⟨rfl,rfl⟩:=h
  exact ⟨hc,by simp,by omega,by simp,rfl,fun _=>rfl,fun a=>absurd rfl a⟩
 rename_i h3
 have h60:c.rev≠60:=fun e=>h3 (Or.inr e)
 split at h
 ·simp at h
  obtain ⟨rfl,rfl⟩:=h
  obtain ⟨g1,g2,g3,g4 | g4⟩:=other_ok (o:=m.e.o) hc h60
  ·refine ⟨g1,by rw [g4.2];omega,by rw [g4.2];omega,by simp,g2,fun _=>by rw [g4.2],fun a=>absurd (by rw [g4.2]) a⟩
  ·refine ⟨g1,by rw [g4.2.1];omega,by rw [g4.2.1];omega,by simp,g2,fun a=>by rw [g4.2.1] at a;omega,fun _=>by rw [g4.2.2,← g4.1]⟩
 split at h;· rename_i h2;simp at h;exact absurd h.2.2 h2
 rename_i h5
 have h5':=Decidable.not_not.1 h5
 have ha:=Applies.of h5'
 have hd:chkDoc (applyP c.base m.e.o).1=0:=by rw [ha.eq];exact ha.res.1
 split at h
 ·simp at h
  obtain ⟨rfl,rfl⟩:=h
  refine ⟨⟨by simp;omega,by simp;omega,hc.s0,hc.s1,hd,fun _=>rfl,fun a=>absurd rfl a,by simp [ownsP]⟩,by simp;omega,by simp,by simp,rfl,fun a=>by simp at a;omega,fun _=>by rw [← h5']⟩
 rename_i h6
 split at h
 ·simp at h
  obtain ⟨rfl,rfl⟩:=h
  refine ⟨give_ok (by simp;omega) (by simp;omega) hc.s0 hc.s1 hd,by simp [giveC];omega,by simp [giveC],by simp,rfl,fun a=>by simp [giveC] at a;omega,fun _=>by simp only [giveC];rw [← h5']⟩
 ·rename_i h7
  simp at h
  obtain ⟨rfl,rfl⟩:=h
  have h8:(applyP (applyP c.base m.e.o).1 c.held).2=0:=by
   by_cases hh:(applyP (applyP c.base m.e.o).1 c.held).2=0
   ·exact hh
   ·exact absurd (Or.inr hh) h7
  have h9:c.seq≠10000:=fun e=>h7 (Or.inl e)
  refine ⟨⟨by simp;omega,by simp;omega,by simp;omega,by simp;omega,hd,fun a=>absurd a h6,fun _=>by simp;omega, ?_⟩,by simp;omega,by simp,fun _=>⟨h6,rfl⟩,rfl,fun a=>by simp at a;omega,fun _=>by rw [← h5']⟩
  simp only [ownsP,h6,h8]
  simp
  rw [← h8]
end Go.Mh
namespace Go.Mh
def eAmp:Bs:=[38,97,109,112,59]
def eLt:Bs:=[38,108,116,59]
def eGt:Bs:=[38,103,116,59]
def eQuot:Bs:=[38,113,117,111,116,59]
def first1 (c:UInt8) (r:Bs):UInt8 × Nat:=
 if eAmp.isPrefixOf (c :: r)=true then (38,4) else if eLt.isPrefixOf (c :: r)=true then (60,3) else if eGt.isPrefixOf (c :: r)=true then (62,3) else if eQuot.isPrefixOf (c :: r)=true then (34,5) else (c,0)
def readS:Nat→Bs→Bs
 | _,[]=>[]
 | k+1,_ :: r=>readS k r
 | 0,c :: r=>(first1 c r).1 :: readS (first1 c r).2 r
def readE (s:Bs):Bs:=readS 0 s
theorem readS_drop (k:Nat) (s:Bs):readS k s=readE (s.drop k):=by
 induction s generalizing k with
 | nil=>cases k <;> simp [readS,readE]
 | cons c s ih=>cases k with
  | zero=>rfl
  | succ k=>simp [readS,ih]
theorem readE_cons (c:UInt8) (r:Bs):readE (c :: r)=(first1 c r).1 :: readE (r.drop (first1 c r).2):=by
 rw [← readS_drop];rfl
def isSp (c:UInt8):Bool:=c == 32 || c == 9 || c == 10 || c == 13 || c == 12
def isLt (c:UInt8):Bool:=(97≤c && c≤122) || (65≤c && c≤90)
def blanks (s:Bs):Bs:=s.dropWhile isSp
def nb1 (c:UInt8):Bool:=!(isSp c || c == 62)
def nb2 (c:UInt8):Bool:=!(isSp c || c == 47 || c == 62)
def nb3 (c:UInt8):Bool:=!(isSp c || c == 47 || c == 62 || c == 61)
def sk2 (c:UInt8):Bool:=isSp c || c == 47
def valueT (s:Bs):Bs × Bs:=match blanks s with
 | []=>([],[])
 | c :: r=>if c=34∨c=39 then ((cut1 c r).1,(cut1 c r).2.1) else ((c :: r).takeWhile nb1,(c :: r).dropWhile nb1)
def valOf (more:Bs):Bs × Bs:=match blanks more with
 | []=>([],more)
 | c :: r=>if c=61 then valueT r else ([],more)
def sHref:Bs:=[104,114,101,102]
def attrF:Nat→Bs→Bs→Bool→Option (Bs × Bs)
 | 0,_,_,_=>none
 | n+1,s,href,found=>match s.dropWhile sk2 with
  | []=>none
  | c :: r=>if c=62 then some (href,r)
   else attrF n (valOf (r.dropWhile nb3)).2 (if lower (c :: r.takeWhile nb3)=sHref∧found=false then (valOf (r.dropWhile nb3)).1 else href) (if lower (c :: r.takeWhile nb3)=sHref∧found=false then true else found)
def attrT (s href:Bs) (found:Bool):Option (Bs × Bs):=attrF (s.length+1) s href found
def tagT (s:Bs):Option (Bs × Bs × Bs):=match attrT (s.dropWhile nb2) [] false with
 | none=>none
 | some (h,r)=>some (lower (s.takeWhile nb2),h,r)
def cutC:Bs→Bs
 | []=>[]
 | c :: r=>if [45,45,62].isPrefixOf (c :: r)=true then r.drop 2 else cutC r
def tText (t:Bs):Tok:=⟨1,[],t,[]⟩
def tOther:Tok:=⟨4,[],[],[]⟩
def sCom:Bs:=[60,33,45,45]
def pageF:Nat→Bs→List Tok
 | 0,_=>[]
 | n+1,s=>(if s.takeWhile (· != 60)=[] then [] else [tText (readE (s.takeWhile (· != 60)))]) ++
  match s.dropWhile (· != 60) with
  | []=>[]
  | c :: u =>
   if sCom.isPrefixOf (c :: u)=true then tOther :: pageF n (cutC (u.drop 3))
   else match u with
    | []=>tText [60] :: pageF n []
    | d :: v =>
     if d=33∨d=63 then tOther :: pageF n (cut1 62 (c :: d :: v)).2.1
     else if isLt d=true then match tagT (d :: v) with
      | none=>[]
      | some (name,h,r)=>⟨2,name,[],readE h⟩ :: pageF n r
     else if d=47∧(v.head?.map isLt)=some true then match tagT v with
      | none=>[]
      | some (name,_,r)=>⟨3,name,[],[]⟩ :: pageF n r
     else tText [60] :: pageF n (d :: v)
def pageT (s:Bs):List Tok:=pageF (s.length+1) s
theorem dw_le {α:Type} (p:α→Bool) (s:List α):(s.dropWhile p).length≤s.length:=by
 induction s with
 | nil=>simp
 | cons c s ih=>simp only [List.dropWhile_cons];split <;> simp;omega
theorem dw_ne {α:Type} {p:α→Bool} {s:List α} {x:α} (hx:x ∈ s) (hp:p x=false):s.dropWhile p≠[]:=by
 induction s with
 | nil=>simp at hx
 | cons c s ih =>
  simp only [List.dropWhile_cons]
  split
  ·rename_i hc
   rcases List.mem_cons.1 hx with rfl | hx
   ·rw [hp] at hc;simp at hc
   ·exact ih hx
  ·simp
theorem dw_suf {α:Type} (p:α→Bool) (s:List α):∃ t,s=t ++ s.dropWhile p:=⟨s.takeWhile p,(List.takeWhile_append_dropWhile).symm⟩
theorem cut1_suf (c:UInt8) (s:Bs):(cut1 c s).2.1=[]∨∃ t,s=t ++ (cut1 c s).2.1:=by
 unfold cut1
 split
 ·right
  obtain ⟨t,ht⟩:=dw_suf (· != c) s
  cases h:s.dropWhile (· != c) with
  | nil=>exact ⟨s,by simp⟩
  | cons d r=>rw [h] at ht;exact ⟨t ++ [d],by simp [ht]⟩
 ·exact Or.inl rfl
theorem cutC_suf (s:Bs):cutC s=[]∨∃ t,s=t ++ cutC s:=by
 induction s with
 | nil=>exact Or.inl rfl
 | cons c r ih =>
  unfold cutC
  split
  ·exact Or.inr ⟨c :: r.take 2,by simp⟩
  ·rcases ih with h | ⟨t,h⟩
   ·exact Or.inl h
   ·exact Or.inr ⟨c :: t,by rw [List.cons_append,← h]⟩
def Suf (r s:Bs):Prop:=r=[]∨∃ t,s=t ++ r
theorem Suf.len {r s:Bs} (h:Suf r s):r.length≤s.length:=by
 rcases h with rfl | ⟨t,rfl⟩ <;> simp
theorem Suf.refl (s:Bs):Suf s s:=Or.inr ⟨[],rfl⟩
theorem Suf.trans {a b c:Bs} (h:Suf a b) (k:Suf b c):Suf a c:=by
 rcases h with rfl | ⟨t,rfl⟩
 ·exact Or.inl rfl
 ·rcases k with k | ⟨u,rfl⟩
  ·left;simp at k;exact k.2
  ·exact Or.inr ⟨u ++ t,by simp⟩
theorem Suf.cons {a b:Bs} (c:UInt8) (h:Suf a b):Suf a (c :: b):=h.trans (Or.inr ⟨[c],rfl⟩)
theorem suf_dw (p:UInt8→Bool) (s:Bs):Suf (s.dropWhile p) s:=Or.inr (dw_suf p s)
theorem suf_cut1 (c:UInt8) (s:Bs):Suf (cut1 c s).2.1 s:=cut1_suf c s
theorem suf_drop (n:Nat) (s:Bs):Suf (s.drop n) s:=Or.inr ⟨s.take n,(List.take_append_drop n s).symm⟩
theorem suf_value (s:Bs):Suf (valueT s).2 s:=by
 unfold valueT
 have hb:=suf_dw isSp s
 cases h:blanks s with
 | nil=>exact Or.inl rfl
 | cons c r =>
  unfold blanks at h
  rw [h] at hb
  simp only
  split
  ·exact ((suf_cut1 c r).cons c).trans hb
  ·exact (suf_dw nb1 (c :: r)).trans hb
theorem suf_valOf (s:Bs):Suf (valOf s).2 s:=by
 unfold valOf
 have hb:=suf_dw isSp s
 cases h:blanks s with
 | nil=>exact Suf.refl s
 | cons c r =>
  unfold blanks at h
  rw [h] at hb
  simp only
  split
  ·exact ((suf_value r).cons c).trans hb
  ·exact Suf.refl s
theorem attrF_fuel (n m:Nat) (s href:Bs) (found:Bool) (hn:s.length < n) (hm:s.length < m):attrF n s href found=attrF m s href found:=by
 induction n generalizing m s href found with
 | zero=>omega
 | succ n ih =>
  cases m with
  | zero=>omega
  | succ m =>
   simp only [attrF]
   cases h:s.dropWhile sk2 with
   | nil=>rfl
   | cons c r =>
    simp only
    split
    ·rfl
    ·have h1:(c :: r).length≤s.length:=by rw [← h];exact dw_le _ _
     have h2:=(suf_valOf (r.dropWhile nb3)).len
     have h3:=dw_le nb3 r
     simp at h1
     exact ih _ _ _ _ (by omega) (by omega)
theorem attrT_eq (s href:Bs) (found:Bool):attrT s href found=match s.dropWhile sk2 with
  | []=>none
  | c :: r=>if c=62 then some (href,r)
   else attrT (valOf (r.dropWhile nb3)).2 (if lower (c :: r.takeWhile nb3)=sHref∧found=false then (valOf (r.dropWhile nb3)).1 else href) (if lower (c :: r.takeWhile nb3)=sHref∧found=false then true else found):=by
 unfold attrT
 rw [attrF]
 cases h:s.dropWhile sk2 with
 | nil=>rfl
 | cons c r =>
  simp only
  split
  ·rfl
  ·have h1:(c :: r).length≤s.length:=by rw [← h];exact dw_le _ _
   have h2:=(suf_valOf (r.dropWhile nb3)).len
   have h3:=dw_le nb3 r
   simp at h1
   exact attrF_fuel _ _ _ _ _ (by omega) (by omega)
theorem attrT_suf (s href h r:Bs) (found:Bool) (e:attrT s href found=some (h,r)):Suf r s:=by
 generalize hn:s.length=n
 induction n using Nat.strongRecOn generalizing s href found with
 | ind n ih =>
  rw [attrT_eq] at e
  cases hd:s.dropWhile sk2 with
  | nil=>rw [hd] at e;simp at e
  | cons c u =>
   rw [hd] at e
   have hs:=suf_dw sk2 s
   rw [hd] at hs
   simp only at e
   split at e
   ·simp at e;obtain ⟨_,rfl⟩:=e;exact ((Suf.refl u).cons c).trans hs
   ·have h1:=hs.len
    have h2:=(suf_valOf (u.dropWhile nb3)).len
    have h3:=dw_le nb3 u
    simp at h1
    have h4:=ih _ (by omega) _ _ _ e rfl
    exact ((h4.trans ((suf_valOf _).trans (suf_dw nb3 u))).cons c).trans hs
theorem tagT_suf {s name h r:Bs} (e:tagT s=some (name,h,r)):Suf r s:=by
 unfold tagT at e
 cases ha:attrT (s.dropWhile nb2) [] false with
 | none=>rw [ha] at e;simp at e
 | some x=>rw [ha] at e;simp at e;obtain ⟨_,rfl,rfl⟩:=e;exact (attrT_suf _ _ _ _ _ ha).trans (suf_dw nb2 s)
theorem pageF_fuel (n m:Nat) (s:Bs) (hn:s.length < n) (hm:s.length < m):pageF n s=pageF m s:=by
 induction n generalizing m s with
 | zero=>omega
 | succ n ih =>
  cases m with
  | zero=>omega
  | succ m =>
   simp only [pageF]
   congr 1
   cases h:s.dropWhile (· != 60) with
   | nil=>rfl
   | cons c u =>
    have h1:(c :: u).length≤s.length:=by rw [← h];exact dw_le _ _
    simp at h1
    simp only
    have go:∀ r:Bs,r.length≤u.length→pageF n r=pageF m r:=fun r hr=>ih _ _ (by omega) (by omega)
    split
    ·rw [go _ (by have:=Suf.len (cutC_suf (u.drop 3));simp at this;omega)]
    ·cases u with
     | nil=>rw [go [] (by simp)]
     | cons d v =>
      simp only
      split
      ·rw [go _ (by
        have h2:=(suf_cut1 62 (c :: d :: v)).len
        rcases Nat.lt_or_ge (cut1 62 (c :: d :: v)).2.1.length (c :: d :: v).length with h3 | h3
        ·simp at h3 ⊢;omega
        ·exfalso
         unfold cut1 at h3
         split at h3
         ·rename_i hmem
          have:=dw_le (· != 62) (c :: d :: v)
          have hne:((c :: d :: v).dropWhile (· != 62))≠[]:=dw_ne hmem (by simp)
          have hpos:0 < ((c :: d :: v).dropWhile (· != 62)).length:=List.length_pos_iff.2 hne
          simp only [List.length_tail] at h3
          omega
         ·simp at h3)]
      ·split
       ·cases ht:tagT (d :: v) with
        | none=>rfl
        | some x=>simp only;rw [go _ (by have:=(tagT_suf ht).len;simpa using this)]
       ·split
        ·cases ht:tagT v with
         | none=>rfl
         | some x=>simp only;rw [go _ (by have:=(tagT_suf ht).len;simp;omega)]
        ·rw [go (d :: v) (Nat.le_refl _)]
def markT:Bs→List Tok
 | []=>[]
 | c :: u =>
   if sCom.isPrefixOf (c :: u)=true then tOther :: pageT (cutC (u.drop 3))
   else match u with
    | []=>[tText [60]]
    | d :: v =>
     if d=33∨d=63 then tOther :: pageT (cut1 62 (c :: d :: v)).2.1
     else if isLt d=true then match tagT (d :: v) with
      | none=>[]
      | some (name,h,r)=>⟨2,name,[],readE h⟩ :: pageT r
     else if d=47∧(v.head?.map isLt)=some true then match tagT v with
      | none=>[]
      | some (name,_,r)=>⟨3,name,[],[]⟩ :: pageT r
     else tText [60] :: pageT (d :: v)
theorem pageT_eq (s:Bs):pageT s=(if s.takeWhile (· != 60)=[] then [] else [tText (readE (s.takeWhile (· != 60)))]) ++ markT (s.dropWhile (· != 60)):=by
 unfold pageT
 rw [pageF]
 congr 1
 cases h:s.dropWhile (· != 60) with
 | nil=>rfl
 | cons c u =>
  have h1:(c :: u).length≤s.length:=by rw [← h];exact dw_le _ _
  simp at h1
  simp only [markT]
  have go:∀ r:Bs,r.length≤u.length→pageF s.length r=pageT r:=fun r hr=>pageF_fuel _ _ _ (by omega) (by omega)
  split
  ·rw [go _ (by have:=Suf.len (cutC_suf (u.drop 3));simp at this;omega)]
  ·cases u with
   | nil=>simp only;rw [go [] (by simp)];rfl
   | cons d v =>
    simp only
    split
    ·have h2:(cut1 62 (c :: d :: v)).2.1.length≤(d :: v).length:=by
      unfold cut1
      split
      ·have:=dw_le (· != 62) (c :: d :: v)
       simp at this ⊢;omega
      ·simp
     rw [go _ h2]
    ·split
     ·cases ht:tagT (d :: v) with
      | none=>rfl
      | some x=>simp only;rw [go _ (by have:=(tagT_suf ht).len;simpa using this)]
     ·split
      ·cases ht:tagT v with
       | none=>rfl
       | some x=>simp only;rw [go _ (by have:=(tagT_suf ht).len;simp;omega)]
      ·rw [go (d :: v) (Nat.le_refl _)]
theorem pageT_nil:pageT []=[]:=rfl
end Go.Mh
namespace Go.Mh
def nP:Bs:=[112]
def nH1:Bs:=[104,49]
def nLi:Bs:=[108,105]
def nH2:Bs:=[104,50]
def nA:Bs:=[97]
def nB:Bs:=[98]
def nI:Bs:=[105]
end Go.Mh
namespace Go.Mh
def tset (c:UInt8):Bool:=c == 32 || c == 9 || c == 13 || c == 10 || c == 12
def trimT (s:Bs):Bs:=((s.dropWhile tset).reverse.dropWhile tset).reverse
def cleanT (s:Bs):Bs:=if may (trimT s)=true then trimT s else []
structure Dk where
 d:List It
 from':Nat
 kind:Int
 inn:Bool
 bold:Int
 slant:Int
 link:Bs
 gone:Bs
def dk0:Dk:=⟨[],0,0,false,0,0,[],[]⟩
def nDiv:Bs:=[100,105,118]
def nStrong:Bs:=[115,116,114,111,110,103]
def nEm:Bs:=[101,109]
def nBr:Bs:=[98,114]
def blockOf (n:Bs):Option Int:=if n=nP then some 0 else if n=nH1 then some 1 else if n=nLi then some 2 else if n=nH2 then some 3 else if n=nDiv then some 0 else none
def hiddenL:List Bs:=[[115,99,114,105,112,116],[115,116,121,108,101],[116,101,109,112,108,97,116,101],[115,118,103],[109,97,116,104],[105,102,114,97,109,101],[116,105,116,108,101],[116,101,120,116,97,114,101,97],[110,111,115,99,114,105,112,116]]
def endD (k:Dk):Dk:=if k.inn=true∨k.from' < k.d.length then { k with d:=k.d ++ [⟨10,k.kind,[]⟩],from':=k.d.length+1,inn:=false,kind:=0 } else { k with inn:=false,kind:=0 }
def chr1 (c:UInt8):UInt8:=if c=9∨c=10∨c=13∨c=12 then 32 else if c < 32∨126 < c then 63 else c
def marksD (k:Dk):Int:=(if 0 < k.bold then 1 else 0)+(if 0 < k.slant then 2 else 0)
def textD (k:Dk) (s:Bs):Dk:={ k with d:=k.d ++ s.map fun c=>⟨chr1 c,marksD k,k.link⟩ }
def openD (k:Dk) (t:Tok):Dk:=match blockOf t.name with
 | some b=>{ endD k with kind:=b,inn:=true }
 | none =>
  if t.name=nB∨t.name=nStrong then { k with bold:=k.bold+1 }
  else if t.name=nI∨t.name=nEm then { k with slant:=k.slant+1 }
  else if t.name=nA then { k with link:=cleanT t.href }
  else if t.name=nBr then { endD { k with inn:=true } with kind:=k.kind }
  else if t.name ∈ hiddenL then { k with gone:=t.name } else k
def shutD (k:Dk) (n:Bs):Dk:=match blockOf n with
 | some _=>endD k
 | none =>
  if n=nB∨n=nStrong then { k with bold:=max 0 (k.bold - 1) }
  else if n=nI∨n=nEm then { k with slant:=max 0 (k.slant - 1) }
  else if n=nA then { k with link:=[] } else k
def stepD (k:Dk) (t:Tok):Dk:=
 if k.gone≠[] then (if t.k=3∧t.name=k.gone then { k with gone:=[] } else k)
 else if t.k=1 then textD k t.text
 else if t.k=2 then openD k t
 else if t.k=3 then shutD k t.name else k
def finD (k:Dk):List It × Int:=
 if 80 < (if (endD k).d=[] then [⟨10,0,[]⟩] else (endD k).d).length then ([],2) else (if (endD k).d=[] then [⟨10,0,[]⟩] else (endD k).d,0)
def sanL (k:Dk):List Tok→List It × Int
 | []=>finD k
 | t :: l=>if 80 < (stepD k t).d.length then ([],2) else sanL (stepD k t) l
def sanP (b:Bs):List It × Int:=if 20000 < b.length then ([],2) else sanL dk0 (pageT b)
section
variable {d:List It} {f:Nat} {kd:Int} {inn:Bool}
end
end Go.Mh
namespace Go.Mh
theorem readSQ_len (s:Bs):∀ k,(readS k s).length≤s.length:=by
 induction s with
 | nil=>intro k;cases k <;> simp [readS]
 | cons c r ih=>intro k;cases k with
  | zero=>simp only [readS,List.length_cons];have:=ih (first1 c r).2;omega
  | succ k=>simp only [readS,List.length_cons];have:=ih k;omega
theorem readEQ_len (s:Bs):(readE s).length≤s.length:=readSQ_len s 0
theorem twQ_le {α:Type} (p:α→Bool) (s:List α):(s.takeWhile p).length≤s.length:=by
 induction s with
 | nil=>simp
 | cons c s ih=>simp only [List.takeWhile_cons];split <;> simp;omega
theorem cut1Q_len (c:UInt8) (s:Bs):(cut1 c s).1.length≤s.length:=by
 unfold cut1
 split
 ·exact twQ_le _ _
 ·exact Nat.le_refl _
theorem valueTQ_len (s:Bs):(valueT s).1.length≤s.length:=by
 unfold valueT
 have hb:=(suf_dw isSp s).len
 cases h:blanks s with
 | nil=>simp
 | cons c r =>
  unfold blanks at h
  rw [h] at hb
  simp only [List.length_cons] at hb
  dsimp only
  split
  ·have:=cut1Q_len c r;simp only;omega
  ·have:=twQ_le nb1 (c :: r);simp only [List.length_cons] at this;simp only;omega
theorem valOfQ_len (s:Bs):(valOf s).1.length≤s.length:=by
 unfold valOf
 have hb:=(suf_dw isSp s).len
 cases h:blanks s with
 | nil=>simp
 | cons c r =>
  unfold blanks at h
  rw [h] at hb
  simp only [List.length_cons] at hb
  dsimp only
  split
  ·have:=valueTQ_len r;omega
  ·simp
theorem attrFQ_len (n:Nat):∀ (s href:Bs) (found:Bool) (h r:Bs) (m:Nat),attrF n s href found=some (h,r)→href.length≤m→s.length≤m→h.length≤m:=by
 induction n with
 | zero=>intro s href found h r m he;simp [attrF] at he
 | succ n ih =>
  intro s href found h r m he h1 h2
  rw [attrF] at he
  have hb:=(suf_dw sk2 s).len
  cases hs:s.dropWhile sk2 with
  | nil=>rw [hs] at he;simp at he
  | cons c u =>
   rw [hs] at he hb
   simp only [List.length_cons] at hb
   dsimp only at he
   split at he
   ·simp only [Option.some.injEq,Prod.mk.injEq] at he;obtain ⟨rfl,_⟩:=he;exact h1
   ·have hu:=(suf_dw nb3 u).len
    have hv:=(suf_valOf (u.dropWhile nb3)).len
    have hw:=valOfQ_len (u.dropWhile nb3)
    refine ih _ _ _ h r m he ?_ (by omega)
    split
    ·omega
    ·exact h1
theorem tagTQ_len {s name h r:Bs} (he:tagT s=some (name,h,r)):h.length≤s.length:=by
 unfold tagT attrT at he
 split at he
 ·simp at he
 ·rename_i h' r' h2
  simp only [Option.some.injEq,Prod.mk.injEq] at he
  obtain ⟨_,rfl,_⟩:=he
  exact attrFQ_len _ _ _ _ _ _ _ h2 (by simp) (dw_le _ _)
def SmT (m:Nat) (t:Tok):Prop:=t.text.length≤m∧t.href.length≤m
theorem pageF_small (m n:Nat):∀ s:Bs,s.length≤m→∀ t ∈ pageF n s,SmT m t:=by
 induction n with
 | zero=>intro s _ t ht;simp [pageF] at ht
 | succ n ih =>
  intro s hs t ht
  rw [pageF,List.mem_append] at ht
  rcases ht with ht | ht
  ·split at ht
   ·simp at ht
   ·simp only [List.mem_singleton] at ht
    subst ht
    have h1:=readEQ_len (s.takeWhile (· != 60))
    have h2:=twQ_le (· != 60) s
    exact ⟨Nat.le_trans h1 (Nat.le_trans h2 hs),by simp [tText]⟩
  ·have hb:=(suf_dw (· != 60) s).len
   cases hd:s.dropWhile (· != 60) with
   | nil=>rw [hd] at ht;simp at ht
   | cons c u =>
    rw [hd] at ht hb
    simp only [List.length_cons] at hb
    dsimp only at ht
    have hO:SmT m tOther:=⟨by simp [tOther],by simp [tOther]⟩
    have h6:SmT m (tText [60]):=⟨by simp [tText];omega,by simp [tText]⟩
    split at ht
    ·rcases List.mem_cons.1 ht with rfl | ht
     ·exact hO
     ·have h1:=(show Suf (cutC (u.drop 3)) (u.drop 3) from cutC_suf _).len
      have h2:=(suf_drop 3 u).len
      exact ih _ (by omega) t ht
    ·cases u with
     | nil =>
      dsimp only at ht
      rcases List.mem_cons.1 ht with rfl | ht
      ·exact h6
      ·exact ih _ (by simp) t ht
     | cons d v =>
      simp only [List.length_cons] at hb
      dsimp only at ht
      split at ht
      ·rcases List.mem_cons.1 ht with rfl | ht
       ·exact hO
       ·have h1:=(suf_cut1 62 (c :: d :: v)).len
        simp only [List.length_cons] at h1
        exact ih _ (by omega) t ht
      ·split at ht
       ·split at ht
        ·simp at ht
        ·rename_i name h r he
         have h1:=tagTQ_len he
         have h2:=(tagT_suf he).len
         simp only [List.length_cons] at h1 h2
         rcases List.mem_cons.1 ht with rfl | ht
         ·have h3:=readEQ_len h
          exact ⟨by simp,by simp only;omega⟩
         ·exact ih _ (by omega) t ht
       ·split at ht
        ·split at ht
         ·simp at ht
         ·rename_i name h r he
          have h2:=(tagT_suf he).len
          rcases List.mem_cons.1 ht with rfl | ht
          ·exact ⟨by simp,by simp⟩
          ·exact ih _ (by omega) t ht
        ·rcases List.mem_cons.1 ht with rfl | ht
         ·exact h6
         ·exact ih _ (by simp only [List.length_cons];omega) t ht
theorem page_small (s:Bs):∀ t ∈ pageT s,SmT s.length t:=pageF_small s.length _ s (Nat.le_refl _)
theorem stepD_bold (k:Dk) (t:Tok) (m:Int) (h:0≤k.bold∧k.bold≤m∧0≤k.slant∧k.slant≤m):0≤(stepD k t).bold∧(stepD k t).bold≤m+1∧0≤(stepD k t).slant∧(stepD k t).slant≤m+1:=by
 obtain ⟨h1,h2,h3,h4⟩:=h
 have hE:∀ k:Dk,(endD k).bold=k.bold∧(endD k).slant=k.slant:=fun k=>by unfold endD;split <;> exact ⟨rfl,rfl⟩
 unfold stepD
 split
 ·split <;> (refine ⟨?_, ?_, ?_, ?_⟩ <;> (try simp only) <;> omega)
 ·split
  ·refine ⟨?_, ?_, ?_, ?_⟩ <;> simp only [textD] <;> omega
  ·split
   ·unfold openD
    split
    ·simp only [(hE k).1,(hE k).2];omega
    ·split
     ·first | omega | (simp only;omega)
     ·split
      ·first | omega | (simp only;omega)
      ·split
       ·first | omega | (simp only;omega)
       ·split
        ·simp only [(hE _).1,(hE _).2];omega
        ·split <;> first | omega | (simp only;omega)
   ·split
    ·unfold shutD
     split
     ·simp only [(hE k).1,(hE k).2];omega
     ·split
      ·first | omega | (simp only;omega)
      ·split
       ·first | omega | (simp only;omega)
       ·split <;> first | omega | (simp only;omega)
    ·omega
theorem pageQ_len (n:Nat):∀ s:Bs,(pageF n s).length≤2 * n:=by
 induction n with
 | zero=>intro s;simp [pageF]
 | succ n ih =>
  intro s
  rw [pageF,List.length_append]
  have h1:(if s.takeWhile (· != 60)=[] then [] else [tText (readE (s.takeWhile (· != 60)))]).length≤1:=by split <;> simp
  have h2:∀ (t:Tok) (r:Bs),(t :: pageF n r).length≤2 * n+1:=fun t r=>by have:=ih r;simp;omega
  have h3:(match s.dropWhile (· != 60) with
   | []=>([]:List Tok)
   | c :: u =>
    if sCom.isPrefixOf (c :: u)=true then tOther :: pageF n (cutC (u.drop 3))
    else match u with
     | []=>tText [60] :: pageF n []
     | d :: v =>
      if d=33∨d=63 then tOther :: pageF n (cut1 62 (c :: d :: v)).2.1
      else if isLt d=true then match tagT (d :: v) with
       | none=>[]
       | some (name,h,r)=>⟨2,name,[],readE h⟩ :: pageF n r
      else if d=47∧(v.head?.map isLt)=some true then match tagT v with
       | none=>[]
       | some (name,_,r)=>⟨3,name,[],[]⟩ :: pageF n r
      else tText [60] :: pageF n (d :: v)).length≤2 * n+1:=by
   repeat' split
   all_goals first | exact h2 _ _ | simp
  exact Nat.le_trans (Nat.add_le_add h1 h3) (by omega)
theorem page_len (s:Bs):(pageT s).length≤2 * (s.length+1):=pageQ_len _ _
end Go.Mh
namespace Go.Mh
def modL {α:Type} (f:α→α):Nat→List α→List α
 | _,[]=>[]
 | 0,x :: l=>f x :: l
 | k+1,x :: l=>x :: modL f k l
theorem modL_len {α:Type} (f:α→α) (k:Nat) (l:List α):(modL f k l).length=l.length:=by
 induction l generalizing k with
 | nil=>cases k <;> rfl
 | cons x l ih=>cases k <;> simp [modL,ih]
theorem modL_get {α:Type} (f:α→α) (k:Nat) (l:List α) (i:Nat):(modL f k l)[i]?=if i=k then l[i]?.map f else l[i]?:=by
 induction l generalizing k i with
 | nil=>cases k <;> simp [modL]
 | cons x l ih =>
  cases k with
  | zero=>cases i <;> simp [modL]
  | succ k=>cases i with
   | zero=>simp [modL]
   | succ i=>simp [modL,ih]
abbrev clAt (w:Wd) (k:Nat):Cl:=w.cl.getD k cl0
abbrev upAt (w:Wd) (k:Nat):List Msg:=w.up.getD k []
abbrev downAt (w:Wd) (k:Nat):List Msg:=w.down.getD k []
def cutW (w:Wd) (k:Nat):Wd:={ w with cl:=modL (fun c=>{ c with joined:=false }) k w.cl,up:=modL (fun _=>[]) k w.up,down:=modL (fun _=>[]) k w.down }
def upW (w:Wd) (k:Nat):Wd:=
 if (clAt w k).joined=false∨(clAt w k).sent=[] then w
 else if 30≤(upAt w k).length then cutW w k
 else { w with up:=modL (· ++ [⟨(clAt w k).rev,⟨k,(clAt w k).seq,(clAt w k).sent⟩⟩]) k w.up }
def downW (w:Wd) (k:Nat) (m:Msg):Wd:=
 if (clAt w k).joined=false then w
 else if 90≤(downAt w k).length then cutW w k
 else { w with down:=modL (· ++ [m]) k w.down }
def setC (w:Wd) (k:Nat) (c:Cl):Wd:={ w with cl:=modL (fun _=>c) k w.cl }
def editW (w:Wd) (k:Nat) (o:List Pt):Wd × Int:=
 if (doC (clAt w k) o).2.2≠0 then (w,(doC (clAt w k) o).2.2)
 else (if (doC (clAt w k) o).2.1=true then upW (setC w k (doC (clAt w k) o).1) k else setC w k (doC (clAt w k) o).1,0)
def allDown (w:Wd) (m:Msg):Nat→Wd
 | 0=>w
 | i+1=>downW (allDown w m i) i m
def downs (w:Wd) (n:Int):List En→Wd
 | []=>w
 | x :: l=>downs (allDown w ⟨n,x⟩ w.cl.length) n l
def serveW (w:Wd) (k:Nat):Wd × Int:=match upAt w k with
 | []=>(w,7)
 | m :: q =>
  if (takeP w.s m.rev ⟨k,m.e.seq,m.e.o⟩).2≠0 then (downW { w with up:=modL (fun _=>q) k w.up } k ⟨0,⟨k,m.e.seq,[]⟩⟩,0)
  else (downs { w with up:=modL (fun _=>q) k w.up,s:=(takeP w.s m.rev ⟨k,m.e.seq,m.e.o⟩).1 } ((takeP w.s m.rev ⟨k,m.e.seq,m.e.o⟩).1.log.length) ((takeP w.s m.rev ⟨k,m.e.seq,m.e.o⟩).1.log.drop w.s.log.length),0)
def hearW (w:Wd) (k:Nat):Wd × Int:=match downAt w k with
 | []=>(w,7)
 | m :: q =>
  if (hearC (clAt w k) k m).2.2≠0 then (cutW { w with down:=modL (fun _=>q) k w.down } k,0)
  else (if (hearC (clAt w k) k m).2.1=true then upW (setC { w with down:=modL (fun _=>q) k w.down } k (hearC (clAt w k) k m).1) k else setC { w with down:=modL (fun _=>q) k w.down } k (hearC (clAt w k) k m).1,0)
def tell (w:Wd) (k:Nat) (i:Nat):List En→Wd
 | []=>w
 | x :: l=>tell (downW w k ⟨(i:Int)+1,x⟩) k (i+1) l
def joinW (w:Wd) (k:Nat):Wd × Int:=
 if (clAt w k).joined=true then (w,7)
 else (upW (tell (setC w k { clAt w k with joined:=true }) k (min (clAt w k).rev.toNat w.s.log.length) (w.s.log.drop (min (clAt w k).rev.toNat w.s.log.length))) k,0)
def pasteO (n x:Int) (d:List It):List Pt:=(if 0 < x then [keepP kd0 x] else []) ++ [putP d,keepP kd0 (n - x)]
def pasteW (pg:Bs→List It × Int) (w:Wd) (k:Nat) (x:Hap):Wd × Int:=
 if (pg x.b).2≠0 then (w,(pg x.b).2)
 else if x.n < 0∨((clAt w k).now.length:Int)≤x.n then (w,3)
 else editW w k (pasteO (clAt w k).now.length x.n (pg x.b).1)
def stepW (pg:Bs→List It × Int) (w:Wd) (x:Hap):Wd × Int:=
 if x.client < 0∨(w.cl.length:Int)≤x.client then (w,5)
 else if x.kind=1 then editW w x.client.toNat x.o
 else if x.kind=2 then pasteW pg w x.client.toNat x
 else if x.kind=3 then serveW w x.client.toNat
 else if x.kind=4 then hearW w x.client.toNat
 else if x.kind=5 then (cutW w x.client.toNat,0)
 else if x.kind=6 then joinW w x.client.toNat
 else (w,4)
def chkMsgs:List Msg→Int
 | []=>0
 | m :: l=>if m.e.o=[] then chkMsgs l else if chkOp m.e.o≠0 then chkOp m.e.o else chkMsgs l
def chkQ (l:List Msg):Int:=if 90 < l.length then 2 else chkMsgs l
def chkQs:List (List Msg)→Int
 | []=>0
 | q :: l=>if chkQ q≠0 then chkQ q else chkQs l
def chkCls:List Cl→Int
 | []=>0
 | c :: l=>if chkCl c≠0 then chkCl c else chkCls l
def chkWd (w:Wd):Int:=
 if chkSrv w.s≠0 then chkSrv w.s
 else if w.cl.length < 1∨4 < w.cl.length∨w.up.length≠w.cl.length∨w.down.length≠w.cl.length then 4
 else if chkCls w.cl≠0 then chkCls w.cl
 else chkQs (w.up ++ w.down)
def wd0:Wd:=⟨srv0,[],[],[]⟩
def doW (pg:Bs→List It × Int) (w:Wd) (x:Hap):Wd × Int:=if chkWd w≠0 then (wd0,chkWd w) else if (stepW pg w x).2≠0 then (wd0,(stepW pg w x).2) else stepW pg w x
def isOp (m:Msg):Bool:=m.e.o != []
def tellL (i:Nat):List En→List Msg
 | []=>[]
 | x :: l=>⟨(i:Int)+1,x⟩ :: tellL (i+1) l
theorem tellL_app (i:Nat) (l m:List En):tellL i (l ++ m)=tellL i l ++ tellL (i+l.length) m:=by
 induction l generalizing i with
 | nil=>rfl
 | cons x l ih=>simp only [List.cons_append,tellL,ih,List.length_cons];rw [show i+1+l.length=i+(l.length+1) by omega]
structure CI (first:List It) (log:List En) (k:Nat) (c:Cl) (uq dq:List Msg):Prop where
 ok:ClOk c
 rle:c.rev≤log.length
 base:foldG first (log.take c.rev.toNat)=(c.base,0)
 ul:uq.length≤30
 uo:∀ m ∈ uq,chkOp m.e.o=0
 us:∀ m ∈ uq,m.e.seq≤c.seq
 dl:dq.length≤90
 dn:∀ m ∈ dq,m.e.o=[]∨chkOp m.e.o=0
 qd:c.joined=true→dq.filter isOp=tellL c.rev.toNat (log.drop c.rev.toNat)
 out:c.joined=false→uq=[]∧dq=[]
 ls:∀ x ∈ log,x.client=k→x.seq≤c.seq
 heard:∀ x ∈ log.take c.rev.toNat,x.client=k→x.seq=c.seq→c.sent=[]
def Fly (k:Nat) (c:Cl) (uq dq:List Msg):Prop:=c.joined=true→c.sent≠[]→(∃ m ∈ uq,m.e.seq=c.seq)∨(∃ m ∈ dq,m.e.client=k∧m.e.seq=c.seq)
section
variable {first:List It} {log:List En} {k:Nat} {c:Cl} {uq dq:List Msg} {m:Msg}
theorem CI.cut (h:CI first log k c uq dq):CI first log k { c with joined:=false } [] []:=
 ⟨⟨h.ok.r0,h.ok.r60,h.ok.s0,h.ok.s1,h.ok.doc,h.ok.hs,h.ok.sq,h.ok.own⟩,h.rle,h.base,by simp,by simp,by simp,by simp,by simp,fun e=>by simp at e,fun _=>⟨rfl,rfl⟩,h.ls,h.heard⟩
theorem fly_cut (k:Nat) (c:Cl) (uq dq:List Msg):Fly k { c with joined:=false } uq dq:=fun e=>by simp at e
theorem sent_chk (h:ClOk c) (hs:c.sent≠[]):chkOp c.sent=0:=by
 rcases h.cases with ⟨a,_⟩ | ⟨_,_,a,_⟩ | ⟨_,_,a,_⟩
 ·exact absurd a hs
 ·exact a.op
 ·exact a.op
theorem CI.push (h:CI first log k c uq dq) (hj:c.joined=true) (hs:c.sent≠[]) (hl:¬ 30≤uq.length):CI first log k c (uq ++ [⟨c.rev,⟨k,c.seq,c.sent⟩⟩]) dq∧Fly k c (uq ++ [⟨c.rev,⟨k,c.seq,c.sent⟩⟩]) dq:=by
 refine ⟨⟨h.ok,h.rle,h.base,by simp;omega,fun m hm=>?_,fun m hm=>?_,h.dl,h.dn,h.qd,fun e=>by rw [hj] at e;simp at e,h.ls,h.heard⟩,fun _ _=>Or.inl ⟨⟨c.rev,⟨k,c.seq,c.sent⟩⟩,by simp,rfl⟩⟩
 ·rcases List.mem_append.1 hm with hm | hm
  ·exact h.uo m hm
  ·simp at hm;subst hm;exact sent_chk h.ok hs
 ·rcases List.mem_append.1 hm with hm | hm
  ·exact h.us m hm
  ·simp at hm;subst hm;simp
theorem CI.edit {x:Cl} {o:List Pt} {b:Bool} (h:CI first log k c uq dq) (hd:doC c o=(x,b,0)):CI first log k x uq dq∧(b=false→Fly k c uq dq→Fly k x uq dq):=by
 obtain ⟨_,_,h3,h4,h5,h6,h7,h8,h9,h10⟩:=law_do hd
 have hseq:c.seq≤x.seq:=by
  by_cases hs:c.sent=[]
  ·have:=(h10 hs).2.2.2;omega
  ·have:=(h9 hs).2.1;omega
 refine ⟨⟨h3,by rw [h6];exact h.rle,by rw [h6,h5];exact h.base,h.ul,h.uo,fun m hm=>by have:=h.us m hm;omega,h.dl,h.dn,fun e=>by rw [h6];rw [h7] at e;exact h.qd e,fun e=>by rw [h7] at e;exact h.out e,fun y hy hk=>by have:=h.ls y hy hk;omega,fun y hy hk hq=>?_⟩,fun hb hf hj hs=>?_⟩
 ·rw [h6] at hy
  by_cases hs:c.sent=[]
  ·have h11:=(h10 hs).2.2.2
   have:=h.ls y (List.mem_of_mem_take hy) hk
   omega
  ·have h11:=(h9 hs).2.1
   exact absurd (h.heard y hy hk (by rw [← h11];exact hq)) hs
 ·by_cases hs2:c.sent=[]
  ·have:=(h10 hs2).1;rw [hb] at this;simp at this
  ·have h11:=(h9 hs2).2.1
   rw [h7] at hj
   rw [h11]
   exact hf hj hs2
theorem take_succ {α:Type} {l:List α} {n:Nat} {x:α} (h:l[n]?=some x):l.take (n+1)=l.take n ++ [x]:=by
 rw [List.take_add_one,h];rfl
theorem drop_cons {α:Type} {l:List α} {n:Nat} {x:α} (h:l[n]?=some x):l.drop n=x :: l.drop (n+1):=by
 obtain ⟨hlt,rfl⟩:=List.getElem?_eq_some_iff.1 h
 exact List.drop_eq_getElem_cons hlt
theorem CI.hear {s:Srv} (hs:SrvOk s) (h:CI s.first s.log k c uq (m :: dq)) (hf:Fly k c uq (m :: dq)) (hj:c.joined=true) :
  ∃ y b,hearC c k m=(y,b,0)∧CI s.first s.log k y uq dq∧(b=false→Fly k y uq dq)∧y.joined=true∧(c.held=[]→b=false∧y.held=[])∧(b=true→y.held=[]) ∧
   (m.e.o=[]→y.rev=c.rev)∧(m.e.o≠[]→y.rev=c.rev+1)∧(c.sent=[]→y.sent=[]):=by
 have r0:=h.ok.r0
 have hdq:=h.qd hj
 by_cases ho:m.e.o=[]
 ·have hfil:dq.filter isOp=tellL c.rev.toNat (s.log.drop c.rev.toNat):=by
   have e:isOp m=false:=by simp [isOp,ho]
   simpa [List.filter_cons,e] using hdq
  by_cases hown:m.e.client=k∧m.e.seq=c.seq∧c.sent≠[]
  ·refine ⟨giveC c,false,by simp [hearC,h.ok.chk,ho,hown], ?_,fun _ _ hs2=>absurd rfl hs2,hj,fun _=>⟨rfl,rfl⟩,fun e=>by simp at e,fun _=>rfl,fun e=>absurd ho e,fun _=>rfl⟩
   exact ⟨give_ok h.ok.r0 h.ok.r60 h.ok.s0 h.ok.s1 h.ok.doc,h.rle,h.base,h.ul,h.uo,h.us,by have:=h.dl;simp at this;omega,fun m' hm=>h.dn m' (List.mem_cons_of_mem _ hm),fun _=>hfil,fun e=>by simp [giveC,hj] at e,h.ls,fun _ _ _ _=>rfl⟩
  ·refine ⟨c,false,by simp only [hearC,h.ok.chk,ho,if_neg hown];simp, ?_,fun _ hj2 hs2=>?_,hj,fun hh=>⟨rfl,hh⟩,fun e=>by simp at e,fun _=>rfl,fun e=>absurd ho e,fun e=>e⟩
   ·exact ⟨h.ok,h.rle,h.base,h.ul,h.uo,h.us,by have:=h.dl;simp at this;omega,fun m' hm=>h.dn m' (List.mem_cons_of_mem _ hm),fun _=>hfil,fun e=>by rw [hj] at e;simp at e,h.ls,h.heard⟩
   ·rcases hf hj2 hs2 with hf | ⟨m',hm,h1,h2⟩
    ·exact Or.inl hf
    ·rcases List.mem_cons.1 hm with rfl | hm
     ·exact absurd ⟨h1,h2,hs2⟩ hown
     ·exact Or.inr ⟨m',hm,h1,h2⟩
 ·have e:isOp m=true:=by simp [isOp,ho]
  rw [List.filter_cons,if_pos e] at hdq
  have hck:chkOp m.e.o=0:=by
   rcases h.dn m (List.mem_cons_self ..) with h1 | h1
   ·exact absurd h1 ho
   ·exact h1
  obtain ⟨x,hx⟩:∃ x,s.log[c.rev.toNat]?=some x:=by
   cases hxx:s.log[c.rev.toNat]? with
   | some x=>exact ⟨x,rfl⟩
   | none=>rw [List.drop_eq_nil_of_le (List.getElem?_eq_none_iff.1 hxx)] at hdq;simp [tellL] at hdq
  have hlt:=(List.getElem?_eq_some_iff.1 hx).1
  rw [drop_cons hx] at hdq
  simp only [tellL,List.cons.injEq] at hdq
  obtain ⟨hm,hfil⟩:=hdq
  have hmr:m.rev=c.rev+1:=by rw [hm];simp only;omega
  have hme:m.e=x:=by rw [hm]
  have hsl:=hs.len
  have h60:c.rev≠60:=by omega
  -- the next base
  have hfold:foldG s.first (s.log.take (c.rev.toNat+1))=applyP c.base m.e.o∧(applyP c.base m.e.o).2=0:=by
   have h1:foldG s.first (s.log.take (c.rev.toNat+1))=if (applyP c.base x.o).2≠0 then ([],(applyP c.base x.o).2) else ((applyP c.base x.o).1,0):=by
    rw [take_succ hx,foldG_app,h.base]
    simp [foldG]
   have h2:=hs.fold
   rw [← List.take_append_drop (c.rev.toNat+1) s.log] at h2
   obtain ⟨e2,h3,_⟩:=foldG_take h2
   rw [h1] at h3
   rw [h1,hme]
   split at h3
   ·rename_i hne;simp at h3;exact absurd h3.2 hne
   ·rename_i hne
    have hz:=Decidable.not_not.1 hne
    simp only [if_neg hne]
    exact ⟨by rw [← hz],hz⟩
  obtain ⟨hf1,hf2⟩:=hfold
  have hap:=Applies.of hf2
  have rn:(c.rev+1).toNat=c.rev.toNat+1:=by omega
  have hbase:∀ y:Cl,y.rev=c.rev+1→y.base=(applyP c.base m.e.o).1→foldG s.first (s.log.take y.rev.toNat)=(y.base,0):=fun y h1 h2=>by rw [h1,h2,rn,hf1,← hf2]
  have hdn:∀ m' ∈ dq,m'.e.o=[]∨chkOp m'.e.o=0:=fun m' hm=>h.dn m' (List.mem_cons_of_mem _ hm)
  have hdl:dq.length≤90:=by have:=h.dl;simp at this;omega
  have hd:chkDoc (applyP c.base m.e.o).1=0:=by rw [hap.eq];exact hap.res.1
  have htk:∀ (y:Cl),y.rev=c.rev+1→∀ z ∈ s.log.take y.rev.toNat,z ∈ s.log.take c.rev.toNat∨z=x:=fun y h1 z hz=>by
   rw [h1,rn,take_succ hx] at hz
   rcases List.mem_append.1 hz with hz | hz
   ·exact Or.inl hz
   ·simp at hz;exact Or.inr hz
  by_cases hown:m.e.client=k∧m.e.seq=c.seq∧c.sent≠[]
  ·-- its own comes back
   have hheard:∀ (z:En),z ∈ s.log→z.client=k→z.seq≤c.seq:=h.ls
   by_cases hh:c.held=[]
   ·refine ⟨{ c with base:=(applyP c.base m.e.o).1,rev:=c.rev+1,sent:=[],held:=[],now:=(applyP c.base m.e.o).1 },false, ?_, ?_,fun _ _ hs2=>absurd rfl hs2,hj,fun _=>⟨rfl,rfl⟩,fun e=>by simp at e,fun e=>absurd e ho,fun _=>rfl,fun _=>rfl⟩
    ·simp only [hearC,h.ok.chk,ho,hck,hmr,h60,hown,hf2,hh];simp [hown.2.2]
    ·exact ⟨⟨by simp;omega,by simp;omega,h.ok.s0,h.ok.s1,hd,fun _=>rfl,fun e=>absurd rfl e,by simp [ownsP]⟩,by simp;omega,hbase _ rfl rfl,h.ul,h.uo,h.us,hdl,hdn,fun _=>by simp only [rn];exact hfil.symm ▸ rfl,fun e=>by simp [hj] at e,h.ls,fun _ _ _ _=>rfl⟩
   ·by_cases hbad:c.seq=10000∨(applyP (applyP c.base m.e.o).1 c.held).2≠0
    ·refine ⟨giveC { c with base:=(applyP c.base m.e.o).1,rev:=c.rev+1 },false, ?_, ?_,fun _ _ hs2=>absurd rfl hs2,hj,fun _=>⟨rfl,rfl⟩,fun e=>by simp at e,fun e=>absurd e ho,fun _=>rfl,fun _=>rfl⟩
     ·simp only [hearC,h.ok.chk,ho,hck,hmr,h60,hown,hf2,hh,if_pos hbad];simp [hown.2.2]
     ·exact ⟨give_ok (by simp;omega) (by simp;omega) h.ok.s0 h.ok.s1 hd,by simp [giveC];omega,hbase _ rfl rfl,h.ul,h.uo,h.us,hdl,hdn,fun _=>by simp only [giveC,rn];exact hfil.symm ▸ rfl,fun e=>by simp [giveC,hj] at e,h.ls,fun _ _ _ _=>rfl⟩
    ·have hb1:c.seq≠10000:=fun e=>hbad (Or.inl e)
     have hb2:(applyP (applyP c.base m.e.o).1 c.held).2=0:=Decidable.not_not.1 fun e=>hbad (Or.inr e)
     have s0:=h.ok.s0;have s1:=h.ok.s1
     refine ⟨{ c with base:=(applyP c.base m.e.o).1,rev:=c.rev+1,sent:=c.held,held:=[],now:=(applyP (applyP c.base m.e.o).1 c.held).1,seq:=c.seq+1 },true, ?_, ?_,fun e=>by simp at e,hj,fun e=>absurd e hh,fun _=>rfl,fun e=>absurd e ho,fun _=>rfl,fun e=>absurd (h.ok.hs e) hh⟩
     ·simp only [hearC,h.ok.chk,ho,hck,hmr,h60,hown,hf2,hh,if_neg hbad];simp [hown.2.2]
     ·refine ⟨⟨by simp;omega,by simp;omega,by simp;omega,by simp;omega,hd,fun e=>absurd e hh,fun _=>by simp;omega, ?_⟩,by simp;omega,hbase _ rfl rfl,h.ul,h.uo,fun m' hm=>by have:=h.us m' hm;simp only;omega,hdl,hdn,fun _=>by simp only [rn];exact hfil.symm ▸ rfl,fun e=>by simp [hj] at e,fun z hz hk=>by have:=h.ls z hz hk;simp only;omega,fun z hz hk hq=>?_⟩
      ·simp only [ownsP,hh,hb2];simp;rw [← hb2]
      ·have:=h.ls z (List.mem_of_mem_take hz) hk
       simp only at hq;omega
  ·-- another one's
   obtain ⟨g1,g2,g3,g4⟩:=other_ok (o:=m.e.o) h.ok h60
   rcases g4 with ⟨g4,_⟩ | ⟨_,g5,g6⟩
   ·exact absurd hf2 g4
   have hcases:((otherC c m.e.o).sent=[]∧(otherC c m.e.o).held=[])∨(c.sent≠[]∧(otherC c m.e.o).sent≠[]∧(c.held=[]→(otherC c m.e.o).held=[])):=by
    unfold otherC
    rw [if_neg (by rw [hf2];simp)]
    split
    ·exact Or.inl ⟨rfl,rfl⟩
    ·rename_i s' h' ht
     split
     ·exact Or.inl ⟨rfl,rfl⟩
     ·rcases turn2_cases ht with ⟨a,b,d⟩ | ⟨a,b,t1,d,e⟩ | ⟨a,b,t1,t2,d,e⟩
      ·left;exact ⟨b,by rw [d];exact h.ok.hs a⟩
      ·right;exact ⟨a,by simp only [d];exact t1.ne.2.1,fun _=>e⟩
      ·right;exact ⟨a,by simp only [d];exact t1.ne.2.1,fun hh=>absurd hh b⟩
   refine ⟨otherC c m.e.o,false, ?_, ?_,fun _ hj2 hs2=>?_,by rw [g2];exact hj,fun hh=>⟨rfl, ?_⟩,fun e=>by simp at e,fun e=>absurd e ho,fun _=>g5,fun hs2=>?_⟩
   ·simp only [hearC,h.ok.chk,ho,hck,hmr,h60,if_pos hown];simp
   ·refine ⟨g1,by rw [g5];omega,hbase _ g5 g6,h.ul,h.uo,fun m' hm=>by rw [g3];exact h.us m' hm,hdl,hdn,fun _=>by rw [g5,rn];exact hfil.symm ▸ rfl,fun e=>by rw [g2,hj] at e;simp at e,fun z hz hk=>by rw [g3];exact h.ls z hz hk,fun z hz hk hq=>?_⟩
    rw [g3] at hq
    have hcs:c.sent=[]:=by
     rcases htk _ g5 z hz with hz | hz
     ·exact h.heard z hz hk hq
     ·by_cases hcs:c.sent=[]
      ·exact hcs
      ·exact absurd ⟨by rw [hme,← hz];exact hk,by rw [hme,← hz];exact hq,hcs⟩ hown
    rcases hcases with ⟨a,_⟩ | ⟨a,_⟩
    ·exact a
    ·exact absurd hcs a
   ·rcases hcases with ⟨a,_⟩ | ⟨a,_⟩
    ·exact absurd a hs2
    ·rw [g3]
     rcases hf hj a with hf | ⟨m',hm,h1,h2⟩
     ·exact Or.inl hf
     ·rcases List.mem_cons.1 hm with rfl | hm
      ·exact absurd ⟨h1,h2,a⟩ hown
      ·exact Or.inr ⟨m',hm,h1,h2⟩
   ·rcases hcases with ⟨_,b⟩ | ⟨_,_,b⟩
    ·exact b
    ·exact b hh
   ·rcases hcases with ⟨a,_⟩ | ⟨a,_⟩
    ·exact a
    ·exact absurd hs2 a
theorem CI.grow {x:En} (h:CI first log k c uq dq) (hx:chkOp x.o=0) (hseq:x.client=k→x.seq≤c.seq) :
  (c.joined=false→CI first (log ++ [x]) k c uq dq)∧(c.joined=true→¬ 90≤dq.length→CI first (log ++ [x]) k c uq (dq ++ [⟨((log.length+1:Nat):Int),x⟩]))∧CI first (log ++ [x]) k { c with joined:=false } [] []:=by
 have r0:=h.ok.r0;have hr:=h.rle
 have htake:(log ++ [x]).take c.rev.toNat=log.take c.rev.toNat:=List.take_append_of_le_length (by omega)
 have hdrop:(log ++ [x]).drop c.rev.toNat=log.drop c.rev.toNat ++ [x]:=List.drop_append_of_le_length (by omega)
 have hls:∀ y ∈ log ++ [x],y.client=k→y.seq≤c.seq:=fun y hy hk=>by
  rcases List.mem_append.1 hy with hy | hy
  ·exact h.ls y hy hk
  ·simp at hy;subst hy;exact hseq hk
 have hxo:isOp ⟨((log.length+1:Nat):Int),x⟩=true:=by simp only [isOp,bne_iff_ne];exact (chkOp_ok hx).ne
 have hbase:foldG first ((log ++ [x]).take c.rev.toNat)=(c.base,0):=by rw [htake];exact h.base
 have hheard:∀ z ∈ (log ++ [x]).take c.rev.toNat,z.client=k→z.seq=c.seq→c.sent=[]:=by rw [htake];exact h.heard
 refine ⟨fun hj=>⟨h.ok,by simp;omega,hbase,h.ul,h.uo,h.us,h.dl,h.dn,fun e=>by rw [hj] at e;simp at e,h.out,hls,hheard⟩,fun hj hl=>⟨h.ok,by simp;omega,hbase,h.ul,h.uo,h.us,by simp;omega,fun m hm=>?_,fun _=>?_,fun e=>by rw [hj] at e;simp at e,hls,hheard⟩, ?_⟩
 ·rcases List.mem_append.1 hm with hm | hm
  ·exact h.dn m hm
  ·simp at hm;subst hm;exact Or.inr hx
 ·rw [List.filter_append,h.qd hj,hdrop,tellL_app]
  congr 1
  simp only [List.filter_cons,hxo,if_true,List.filter_nil,tellL,List.length_drop]
  congr 2
  omega
 ·exact ⟨⟨h.ok.r0,h.ok.r60,h.ok.s0,h.ok.s1,h.ok.doc,h.ok.hs,h.ok.sq,h.ok.own⟩,by simp;omega,hbase,by simp,by simp,by simp,by simp,by simp,fun e=>by simp at e,fun _=>⟨rfl,rfl⟩,hls,hheard⟩
theorem CI.refuse {q:Int} (h:CI first log k c uq dq) (hl:¬ 90≤dq.length) (hj:c.joined=true):CI first log k c uq (dq ++ [⟨0,⟨k,q,[]⟩⟩]):=
 ⟨h.ok,h.rle,h.base,h.ul,h.uo,h.us,by simp;omega,fun m hm=>by
  rcases List.mem_append.1 hm with hm | hm
  ·exact h.dn m hm
  ·simp at hm;subst hm;exact Or.inl rfl,fun e=>by
  rw [List.filter_append,h.qd e];simp [isOp],fun e=>by rw [hj] at e;simp at e,h.ls,h.heard⟩
theorem CI.pop (h:CI first log k c (m :: uq) dq):CI first log k c uq dq:=
 ⟨h.ok,h.rle,h.base,by have:=h.ul;simp at this;omega,fun x hx=>h.uo x (List.mem_cons_of_mem _ hx),fun x hx=>h.us x (List.mem_cons_of_mem _ hx),h.dl,h.dn,h.qd,fun e=>by have:=(h.out e).1;simp at this,h.ls,h.heard⟩
end
end Go.Mh
namespace Go.Mh
theorem getD_modL {α:Type} (f:α→α) (k:Nat) (l:List α) (i:Nat) (d:α) (h:i < l.length):(modL f k l).getD i d=if i=k then f (l.getD i d) else l.getD i d:=by
 simp only [List.getD_eq_getElem?_getD,modL_get,List.getElem?_eq_getElem h]
 split <;> rfl
theorem getD_modL_ne {α:Type} (f:α→α) (k:Nat) (l:List α) (i:Nat) (d:α) (h:i≠k):(modL f k l).getD i d=l.getD i d:=by
 simp only [List.getD_eq_getElem?_getD,modL_get,if_neg h]
structure InvX (ex:Option Nat) (w:Wd):Prop where
 srv:SrvOk w.s
 n1:1≤w.cl.length
 n4:w.cl.length≤4
 ul:w.up.length=w.cl.length
 dl:w.down.length=w.cl.length
 ci:∀ k,k < w.cl.length→CI w.s.first w.s.log k (clAt w k) (upAt w k) (downAt w k)
 fly:∀ k,k < w.cl.length→some k≠ex→Fly k (clAt w k) (upAt w k) (downAt w k)
abbrev Inv (w:Wd):Prop:=InvX none w
def put3 (w:Wd) (k:Nat) (c:Cl) (uq dq:List Msg):Wd:={ w with cl:=modL (fun _=>c) k w.cl,up:=modL (fun _=>uq) k w.up,down:=modL (fun _=>dq) k w.down }
section
variable {w:Wd} {k:Nat} {ex:Option Nat}
theorem InvX.put3 {c:Cl} {uq dq:List Msg} (h:InvX ex w) (hc:CI w.s.first w.s.log k c uq dq) (ex':Option Nat) (hf:some k≠ex'→Fly k c uq dq) (he:∀ i,i≠k→some i=ex→some i=ex'):InvX ex' (put3 w k c uq dq):=by
 refine ⟨h.srv,by simp [Mh.put3,modL_len];exact h.n1,by simp [Mh.put3,modL_len];exact h.n4,by simp [Mh.put3,modL_len];exact h.ul,by simp [Mh.put3,modL_len];exact h.dl,fun i hi=>?_,fun i hi hne=>?_⟩
 ·simp only [Mh.put3,modL_len] at hi
  have hu:=h.ul;have hd:=h.dl
  simp only [Mh.put3,clAt,upAt,downAt]
  rw [getD_modL _ _ _ _ _ hi,getD_modL _ _ _ _ _ (by omega),getD_modL _ _ _ _ _ (by omega)]
  by_cases e:i=k
  ·subst e;simpa using hc
  ·simp only [if_neg e];exact h.ci i hi
 ·simp only [Mh.put3,modL_len] at hi
  have hu:=h.ul;have hd:=h.dl
  simp only [Mh.put3,clAt,upAt,downAt]
  rw [getD_modL _ _ _ _ _ hi,getD_modL _ _ _ _ _ (by omega),getD_modL _ _ _ _ _ (by omega)]
  by_cases e:i=k
  ·subst e;simpa using hf hne
  ·simp only [if_neg e];exact h.fly i hi (fun hx=>hne (he i e hx))
theorem modL_congr {α:Type} (f g:α→α) (k:Nat) (l:List α) (d:α) (h:f (l.getD k d)=g (l.getD k d)):modL f k l=modL g k l:=by
 induction l generalizing k with
 | nil=>cases k <;> rfl
 | cons x l ih=>cases k with
  | zero=>simp only [modL];simp at h;rw [h]
  | succ k=>simp only [modL];rw [ih];simpa using h
theorem modL_self {α:Type} (k:Nat) (l:List α) (d:α):modL (fun _=>l.getD k d) k l=l:=by
 induction l generalizing k with
 | nil=>cases k <;> rfl
 | cons x l ih=>cases k with
  | zero=>simp [modL]
  | succ k=>simp only [modL,List.getD_cons_succ];rw [ih]
theorem cutW_put:cutW w k=put3 w k { clAt w k with joined:=false } [] []:=by
 unfold cutW put3
 rw [modL_congr (fun c=>{ c with joined:=false }) (fun _=>{ clAt w k with joined:=false }) k w.cl cl0 rfl]
theorem setC_put (c:Cl):setC w k c=put3 w k c (upAt w k) (downAt w k):=by
 unfold setC put3
 rw [modL_self,modL_self]
theorem push_put (m:Msg):{ w with up:=modL (· ++ [m]) k w.up }=put3 w k (clAt w k) (upAt w k ++ [m]) (downAt w k):=by
 unfold put3
 rw [modL_self,modL_self,modL_congr (· ++ [m]) (fun _=>upAt w k ++ [m]) k w.up [] rfl]
theorem pushD_put (m:Msg):{ w with down:=modL (· ++ [m]) k w.down }=put3 w k (clAt w k) (upAt w k) (downAt w k ++ [m]):=by
 unfold put3
 rw [modL_self,modL_self,modL_congr (· ++ [m]) (fun _=>downAt w k ++ [m]) k w.down [] rfl]
theorem popU_put (q:List Msg):{ w with up:=modL (fun _=>q) k w.up }=put3 w k (clAt w k) q (downAt w k):=by
 unfold put3;rw [modL_self,modL_self]
theorem popD_put (q:List Msg):{ w with down:=modL (fun _=>q) k w.down }=put3 w k (clAt w k) (upAt w k) q:=by
 unfold put3;rw [modL_self,modL_self]
theorem put3_at (h:InvX ex w) (hk:k < w.cl.length) (c:Cl) (uq dq:List Msg) (i:Nat):clAt (put3 w k c uq dq) i=(if i=k then c else clAt w i)∧upAt (put3 w k c uq dq) i=(if i=k then uq else upAt w i)∧downAt (put3 w k c uq dq) i=(if i=k then dq else downAt w i):=by
 have hu:=h.ul;have hd:=h.dl
 by_cases e:i=k
 ·subst e
  simp only [put3,clAt,upAt,downAt,if_true]
  rw [getD_modL _ _ _ _ _ hk,getD_modL _ _ _ _ _ (by omega),getD_modL _ _ _ _ _ (by omega)]
  simp
 ·simp only [put3,clAt,upAt,downAt,if_neg e]
  rw [getD_modL_ne _ _ _ _ _ e,getD_modL_ne _ _ _ _ _ e,getD_modL_ne _ _ _ _ _ e]
  simp
theorem put3_put3 (c c':Cl) (uq dq uq' dq':List Msg):put3 (put3 w k c uq dq) k c' uq' dq'=put3 w k c' uq' dq':=by
 have e:∀ {α:Type} (x y:α) (k:Nat) (l:List α),modL (fun _=>y) k (modL (fun _=>x) k l)=modL (fun _=>y) k l:=by
  intro α x y k l
  induction l generalizing k with
  | nil=>cases k <;> rfl
  | cons z l ih=>cases k <;> simp [modL,ih]
 simp only [put3,e]
theorem InvX.cutK (h:InvX ex w) (hk:k < w.cl.length) (he:∀ i,i≠k→some i=ex→False):Inv (cutW w k):=by
 rw [cutW_put]
 exact h.put3 (h.ci k hk).cut none (fun _=>fly_cut _ _ _ _) (fun i hi e=>(he i hi e).elim)
theorem InvX.upK (h:InvX (some k) w) (hk:k < w.cl.length):Inv (upW w k):=by
 have hself:Fly k (clAt w k) (upAt w k) (downAt w k)→Inv w:=fun hf=>⟨h.srv,h.n1,h.n4,h.ul,h.dl,h.ci,fun i hi _=>by
  by_cases e:i=k
  ·subst e;exact hf
  ·exact h.fly i hi (by simpa using e)⟩
 unfold upW
 split
 ·rename_i h1
  exact hself fun hj hs=>by rcases h1 with h1 | h1;rw [hj] at h1;simp at h1;exact absurd h1 hs
 ·rename_i h1
  simp only [not_or,Bool.not_eq_false] at h1
  split
  ·exact h.cutK hk fun i hi e=>hi (by simpa using e)
  ·rename_i h2
   rw [push_put]
   obtain ⟨h3,h4⟩:=(h.ci k hk).push h1.1 h1.2 h2
   exact h.put3 h3 none (fun _=>h4) (fun i hi e=>absurd (by simpa using e) hi)
theorem inv_edit {o:List Pt} (h:Inv w) (hk:k < w.cl.length) (he:(editW w k o).2=0):Inv (editW w k o).1:=by
 unfold editW at he ⊢
 split at he
 ·rename_i h1;exact absurd he h1
 ·rename_i h1
  rw [if_neg h1]
  have hd:doC (clAt w k) o=((doC (clAt w k) o).1,(doC (clAt w k) o).2.1,0):=by rw [← Decidable.not_not.1 h1]
  obtain ⟨h2,h3⟩:=(h.ci k hk).edit hd
  simp only
  rw [setC_put]
  split
  ·exact InvX.upK (h.put3 h2 (some k) (fun e=>absurd rfl e) (fun i hi e=>by simp at e)) (by simp [put3,modL_len];exact hk)
  ·rename_i hb
   exact h.put3 h2 none (fun _=>h3 (by simpa using hb) (h.fly k hk (by simp))) (fun i hi e=>e)
theorem inv_hear (h:Inv w) (hk:k < w.cl.length) (he:(hearW w k).2=0):Inv (hearW w k).1:=by
 unfold hearW at he ⊢
 cases hq:downAt w k with
 | nil=>rw [hq] at he;simp at he
 | cons m q =>
  simp only
  have hci:=h.ci k hk
  have hfl:=h.fly k hk (by simp)
  have hj:(clAt w k).joined=true:=by
   cases hj:(clAt w k).joined with
   | true=>rfl
   | false=>have:=(hci.out hj).2;rw [hq] at this;simp at this
  rw [hq] at hci hfl
  obtain ⟨y,b,h1,h2,h3,_⟩:=CI.hear h.srv hci hfl hj
  rw [h1]
  rw [if_neg (by simp)]
  have hw1:setC { w with down:=modL (fun _=>q) k w.down } k y=put3 w k y (upAt w k) q:=by
   rw [popD_put,setC_put]
   obtain ⟨_,e2,e3⟩:=put3_at h hk (clAt w k) (upAt w k) q k
   rw [e2,e3,put3_put3]
   simp
  simp only
  rw [hw1]
  split
  ·exact InvX.upK (h.put3 h2 (some k) (fun e=>absurd rfl e) (fun i hi e=>by simp at e)) (by simp [put3,modL_len];exact hk)
  ·rename_i hb
   exact h.put3 h2 none (fun _=>h3 (by simpa using hb)) (fun i hi e=>e)
def down1 (x:Cl × List Msg × List Msg) (m:Msg):Cl × List Msg × List Msg:=
 if x.1.joined=false then x else if 90≤x.2.2.length then ({ x.1 with joined:=false },[],[]) else (x.1,x.2.1,x.2.2 ++ [m])
abbrev trip (w:Wd) (k:Nat):Cl × List Msg × List Msg:=(clAt w k,upAt w k,downAt w k)
structure Shp (w:Wd) (n:Nat):Prop where
 cl:w.cl.length=n
 ul:w.up.length=n
 dl:w.down.length=n
theorem put3_trip {n:Nat} (h:Shp w n) (hk:k < n) (c:Cl) (uq dq:List Msg) (i:Nat):trip (put3 w k c uq dq) i=if i=k then (c,uq,dq) else trip w i:=by
 have hc:=h.cl;have hu:=h.ul;have hd:=h.dl
 by_cases e:i=k
 ·subst e
  simp only [trip,put3,clAt,upAt,downAt,if_true]
  rw [getD_modL _ _ _ _ _ (by omega),getD_modL _ _ _ _ _ (by omega),getD_modL _ _ _ _ _ (by omega)]
  simp
 ·simp only [trip,put3,clAt,upAt,downAt,if_neg e]
  rw [getD_modL_ne _ _ _ _ _ e,getD_modL_ne _ _ _ _ _ e,getD_modL_ne _ _ _ _ _ e]
theorem put3_shp {n:Nat} (h:Shp w n) (c:Cl) (uq dq:List Msg):Shp (put3 w k c uq dq) n:=⟨by simp [put3,modL_len];exact h.cl,by simp [put3,modL_len];exact h.ul,by simp [put3,modL_len];exact h.dl⟩
theorem downW_shp {n:Nat} (h:Shp w n) (m:Msg):Shp (downW w k m) n∧(downW w k m).s=w.s:=by
 unfold downW
 split
 ·exact ⟨h,rfl⟩
 ·split
  ·rw [cutW_put];exact ⟨put3_shp h _ _ _,rfl⟩
  ·rw [pushD_put];exact ⟨put3_shp h _ _ _,rfl⟩
theorem downW_trip {n:Nat} (h:Shp w n) (hk:k < n) (m:Msg) (i:Nat):trip (downW w k m) i=if i=k then down1 (trip w k) m else trip w i:=by
 unfold downW down1
 by_cases h1:(clAt w k).joined=false
 ·rw [if_pos h1,if_pos h1]
  by_cases e:i=k
  ·subst e;rw [if_pos rfl]
  ·rw [if_neg e]
 ·rw [if_neg h1,if_neg h1]
  by_cases h2:90≤(downAt w k).length
  ·rw [if_pos h2,if_pos h2,cutW_put,put3_trip h hk]
  ·rw [if_neg h2,if_neg h2,pushD_put,put3_trip h hk]
theorem allDown_trip {n:Nat} (h:Shp w n) (m:Msg) (j:Nat) (hj:j≤n):Shp (allDown w m j) n∧(allDown w m j).s=w.s∧∀ i,trip (allDown w m j) i=if i < j then down1 (trip w i) m else trip w i:=by
 induction j with
 | zero=>exact ⟨h,rfl,fun i=>by simp [allDown]⟩
 | succ j ih =>
  obtain ⟨h1,h2,h3⟩:=ih (by omega)
  obtain ⟨h4,h5⟩:=downW_shp (k:=j) h1 m
  refine ⟨h4,h5.trans h2,fun i=>?_⟩
  simp only [allDown]
  rw [downW_trip h1 (by omega),h3,h3]
  by_cases e:i=j
  ·subst e;simp
  ·rw [if_neg e]
   by_cases e2:i < j
   ·rw [if_pos e2,if_pos (by omega)]
   ·rw [if_neg e2,if_neg (by omega)]
theorem InvX.shp (h:InvX ex w):Shp w w.cl.length:=⟨rfl,h.ul,h.dl⟩
theorem serve_cases {m:Msg} {q:List Msg} (hq:upAt w k=m :: q) :
  ((takeP w.s m.rev ⟨k,m.e.seq,m.e.o⟩).2≠0∧serveW w k=(downW (put3 w k (clAt w k) q (downAt w k)) k ⟨0,⟨k,m.e.seq,[]⟩⟩,0)) ∨
  (hasP w.s.log k m.e.seq=true∧serveW w k=(put3 w k (clAt w k) q (downAt w k),0)) ∨
  (∃ o,SrvOk ⟨w.s.first,w.s.log ++ [⟨k,m.e.seq,o⟩],doA w.s.now (acts o)⟩∧chkOp o=0∧serveW w k=(allDown { put3 w k (clAt w k) q (downAt w k) with s:=⟨w.s.first,w.s.log ++ [⟨k,m.e.seq,o⟩],doA w.s.now (acts o)⟩ } ⟨((w.s.log.length+1:Nat):Int),⟨k,m.e.seq,o⟩⟩ w.cl.length,0)):=by
 unfold serveW
 rw [hq]
 simp only
 by_cases h0:(takeP w.s m.rev ⟨k,m.e.seq,m.e.o⟩).2=0
 ·right
  rw [if_neg (by simp [h0])]
  have ht:takeP w.s m.rev ⟨k,m.e.seq,m.e.o⟩=((takeP w.s m.rev ⟨k,m.e.seq,m.e.o⟩).1,0):=by rw [← h0]
  obtain ⟨hs,hx,h1 | h1⟩:=takeP_cases ht
  ·left
   refine ⟨h1.1, ?_⟩
   rw [h1.2]
   simp only [List.drop_length,downs]
   rw [← popU_put]
  ·right
   obtain ⟨_,_,_,h2,o,_,h3,h4⟩:=h1
   have hok:=SrvOk.of (law_folds ht).1
   refine ⟨o,by rw [← h4];exact hok,h3.op, ?_⟩
   rw [h4]
   simp only [List.drop_left,downs,List.length_append,List.length_singleton]
   rw [← popU_put]
 ·left
  refine ⟨h0, ?_⟩
  rw [if_pos h0,popU_put]
theorem InvX.mk3 {n:Nat} (hs:SrvOk w.s) (h:Shp w n) (h1:1≤n) (h4:n≤4) (hc:∀ i,i < n→CI w.s.first w.s.log i (trip w i).1 (trip w i).2.1 (trip w i).2.2∧Fly i (trip w i).1 (trip w i).2.1 (trip w i).2.2):Inv w:=
 ⟨hs,by rw [h.cl];exact h1,by rw [h.cl];exact h4,by rw [h.ul,h.cl],by rw [h.dl,h.cl],fun i hi=>(hc i (by rw [← h.cl];exact hi)).1,fun i hi _=>(hc i (by rw [← h.cl];exact hi)).2⟩
theorem inv_serve (h:Inv w) (hk:k < w.cl.length) (he:(serveW w k).2=0):Inv (serveW w k).1:=by
 cases hq:upAt w k with
 | nil=>unfold serveW at he;rw [hq] at he;simp at he
 | cons m q =>
  have hci:=h.ci k hk
  have hfl:=h.fly k hk (by simp)
  rw [hq] at hci hfl
  have hj:(clAt w k).joined=true:=by
   cases hj:(clAt w k).joined with
   | true=>rfl
   | false=>have:=(hci.out hj).1;simp at this
  have hpop:=hci.pop
  have hsh:=h.shp
  have hsh1:Shp (put3 w k (clAt w k) q (downAt w k)) w.cl.length:=put3_shp hsh _ _ _
  rcases serve_cases hq with ⟨_,e⟩ | ⟨hh,e⟩ | ⟨o,hs,ho,e⟩
  ·rw [e]
   obtain ⟨h1,h2⟩:=downW_shp (k:=k) hsh1 ⟨0,⟨k,m.e.seq,[]⟩⟩
   refine InvX.mk3 (w:=downW (put3 w k (clAt w k) q (downAt w k)) k ⟨0,⟨k,m.e.seq,[]⟩⟩) (by rw [h2];exact h.srv) h1 h.n1 h.n4 fun i hi=>?_
   rw [downW_trip hsh1 hk,put3_trip hsh hk,h2]
   by_cases ei:i=k
   ·subst ei
    simp only [if_true,down1,hj]
    rw [if_neg (by simp)]
    split
    ·exact ⟨hpop.cut,fly_cut _ _ _ _⟩
    ·rename_i h90
     refine ⟨hpop.refuse h90 hj,fun hj2 hs2=>?_⟩
     rcases hfl hj2 hs2 with ⟨x,hx,h3⟩ | ⟨x,hx,h3⟩
     ·rcases List.mem_cons.1 hx with rfl | hx
      ·exact Or.inr ⟨_,List.mem_append_right _ (List.mem_singleton.2 rfl),rfl,h3⟩
      ·exact Or.inl ⟨x,hx,h3⟩
     ·exact Or.inr ⟨x,List.mem_append_left _ hx,h3⟩
   ·rw [if_neg ei,put3_trip hsh hk,if_neg ei]
    exact ⟨h.ci i hi,h.fly i hi (by simp)⟩
  ·rw [e]
   refine h.put3 hpop none (fun _ hj2 hs2=>?_) (fun i hi e=>e)
   rcases hfl hj2 hs2 with ⟨x,hx,h3⟩ | hx
   ·rcases List.mem_cons.1 hx with rfl | hx
    ·right
     simp only [hasP,List.any_eq_true,Bool.and_eq_true,beq_iff_eq] at hh
     obtain ⟨z,hz,h4,h5⟩:=hh
     have hzd:z ∈ w.s.log.drop (clAt w k).rev.toNat:=by
      rw [← List.take_append_drop (clAt w k).rev.toNat w.s.log] at hz
      rcases List.mem_append.1 hz with hz | hz
      ·exact absurd (hci.heard z hz h4 (by rw [h5,h3])) hs2
      ·exact hz
     have hte:∀ (l:List En) (i:Nat),z ∈ l→∃ y ∈ tellL i l,y.e=z:=by
      intro l
      induction l with
      | nil=>intro i hz;simp at hz
      | cons a l ih =>
       intro i hz
       rcases List.mem_cons.1 hz with rfl | hz
       ·exact ⟨_,List.mem_cons_self ..,rfl⟩
       ·obtain ⟨y,hy,e⟩:=ih (i+1) hz;exact ⟨y,List.mem_cons_of_mem _ hy,e⟩
     obtain ⟨y,hy,e⟩:=hte _ (clAt w k).rev.toNat hzd
     rw [← hci.qd hj] at hy
     exact ⟨y,(List.mem_filter.1 hy).1,by rw [e];exact h4,by rw [e,h5,h3]⟩
    ·exact Or.inl ⟨x,hx,h3⟩
   ·exact Or.inr hx
  ·rw [e]
   have hsh2:Shp { put3 w k (clAt w k) q (downAt w k) with s:=⟨w.s.first,w.s.log ++ [⟨k,m.e.seq,o⟩],doA w.s.now (acts o)⟩ } w.cl.length:=⟨hsh1.cl,hsh1.ul,hsh1.dl⟩
   obtain ⟨h1,h2,h3⟩:=allDown_trip hsh2 ⟨((w.s.log.length+1:Nat):Int),⟨k,m.e.seq,o⟩⟩ w.cl.length (Nat.le_refl _)
   refine InvX.mk3 (w:=allDown { put3 w k (clAt w k) q (downAt w k) with s:=⟨w.s.first,w.s.log ++ [⟨k,m.e.seq,o⟩],doA w.s.now (acts o)⟩ } ⟨((w.s.log.length+1:Nat):Int),⟨k,m.e.seq,o⟩⟩ w.cl.length) (by rw [h2];exact hs) h1 h.n1 h.n4 fun i hi=>?_
   rw [h3,if_pos hi,h2]
   have ht:trip { put3 w k (clAt w k) q (downAt w k) with s:=⟨w.s.first,w.s.log ++ [⟨k,m.e.seq,o⟩],doA w.s.now (acts o)⟩ } i=if i=k then (clAt w k,q,downAt w k) else trip w i:=put3_trip hsh hk _ _ _ i
   rw [ht]
   by_cases ei:i=k
   ·subst ei
    simp only [if_true]
    obtain ⟨_,g2,g3⟩:=hpop.grow (x:=⟨i,m.e.seq,o⟩) ho (fun _=>hci.us m (List.mem_cons_self ..))
    simp only [down1,hj]
    rw [if_neg (by simp)]
    split
    ·exact ⟨g3,fly_cut _ _ _ _⟩
    ·rename_i h90
     refine ⟨g2 hj h90,fun hj2 hs2=>?_⟩
     rcases hfl hj2 hs2 with ⟨x,hx,hxs⟩ | ⟨x,hx,hxs⟩
     ·rcases List.mem_cons.1 hx with rfl | hx
      ·exact Or.inr ⟨_,List.mem_append_right _ (List.mem_singleton.2 rfl),rfl,hxs⟩
      ·exact Or.inl ⟨x,hx,hxs⟩
     ·exact Or.inr ⟨x,List.mem_append_left _ hx,hxs⟩
   ·simp only [if_neg ei]
    have hcii:=h.ci i hi
    have hfi:=h.fly i hi (by simp)
    obtain ⟨g1,g2,g3⟩:=hcii.grow (x:=⟨k,m.e.seq,o⟩) ho (fun e=>absurd (by simp at e;omega) ei)
    simp only [down1]
    split
    ·rename_i hj2;exact ⟨g1 hj2,hfi⟩
    ·rename_i hj2
     have hj3:(clAt w i).joined=true:=by simpa using hj2
     split
     ·exact ⟨g3,fly_cut _ _ _ _⟩
     ·rename_i h90
      refine ⟨g2 hj3 h90,fun hj4 hs2=>?_⟩
      rcases hfi hj4 hs2 with ⟨x,hx,h3⟩ | ⟨x,hx,h3⟩
      ·exact Or.inl ⟨x,hx,h3⟩
      ·exact Or.inr ⟨x,List.mem_append_left _ hx,h3⟩
theorem tellL_len (i:Nat) (l:List En):(tellL i l).length=l.length:=by
 induction l generalizing i with
 | nil=>rfl
 | cons x l ih=>simp [tellL,ih]
theorem tell_put {n:Nat} (l:List En):∀ (w:Wd) (i:Nat),Shp w n→k < n→(clAt w k).joined=true→(downAt w k).length+l.length≤90→tell w k i l=put3 w k (clAt w k) (upAt w k) (downAt w k ++ tellL i l):=by
 induction l with
 | nil =>
  intro w i _ _ _ _
  simp only [tell,tellL,List.append_nil]
  unfold put3
  rw [modL_self,modL_self,modL_self]
 | cons x l ih =>
  intro w i hs hk hj hl
  simp only [tell,tellL]
  simp only [List.length_cons] at hl
  have e:downW w k ⟨(i:Int)+1,x⟩=put3 w k (clAt w k) (upAt w k) (downAt w k ++ [⟨(i:Int)+1,x⟩]):=by
   unfold downW
   rw [if_neg (by rw [hj];simp),if_neg (by omega),pushD_put]
  rw [e]
  have ht:=put3_trip hs hk (clAt w k) (upAt w k) (downAt w k ++ [⟨(i:Int)+1,x⟩]) k
  simp only [if_true,trip,Prod.mk.injEq] at ht
  obtain ⟨e1,e2,e3⟩:=ht
  rw [ih _ (i+1) (put3_shp hs _ _ _) hk (by rw [e1];exact hj) (by rw [e3,List.length_append,List.length_singleton];omega),e1,e2,e3,put3_put3]
  simp
theorem join_put (h:Inv w) (hk:k < w.cl.length) (hj:(clAt w k).joined=false) :
  InvX (some k) (put3 w k { clAt w k with joined:=true } [] (tellL (clAt w k).rev.toNat (w.s.log.drop (clAt w k).rev.toNat))) ∧
  joinW w k=(upW (put3 w k { clAt w k with joined:=true } [] (tellL (clAt w k).rev.toNat (w.s.log.drop (clAt w k).rev.toNat))) k,0):=by
 have hci:=h.ci k hk
 obtain ⟨hu,hd⟩:=hci.out hj
 have hr:=hci.rle;have r0:=hci.ok.r0
 have hlen:=h.srv.len
 have hops:∀ (i:Nat) (l:List En),(∀ x ∈ l,chkEn x=0)→(tellL i l).filter isOp=tellL i l∧∀ m ∈ tellL i l,chkOp m.e.o=0:=by
  intro i l
  induction l generalizing i with
  | nil=>intro _;exact ⟨rfl,fun m hm=>by simp [tellL] at hm⟩
  | cons x l ih =>
   intro hl
   obtain ⟨i1,i2⟩:=ih (i+1) fun y hy=>hl y (List.mem_cons_of_mem _ hy)
   have hx:=hl x (List.mem_cons_self ..)
   have hop:chkOp x.o=0:=by
    unfold chkEn at hx
    split at hx;· simp at hx
    split at hx;· simp at hx
    exact hx
   simp only [tellL]
   refine ⟨?_,fun m hm=>?_⟩
   ·have e:isOp ⟨(i:Int)+1,x⟩=true:=by simp only [isOp,bne_iff_ne];exact (chkOp_ok hop).ne
    rw [List.filter_cons,if_pos e,i1]
   ·rcases List.mem_cons.1 hm with rfl | hm
    ·exact hop
    ·exact i2 m hm
 obtain ⟨o1,o2⟩:=hops (clAt w k).rev.toNat (w.s.log.drop (clAt w k).rev.toNat) fun x hx=>h.srv.ens x (List.mem_of_mem_drop hx)
 constructor
 ·refine h.put3 ?_ (some k) (fun e=>absurd rfl e) (fun i hi e=>by simp at e)
  refine ⟨⟨hci.ok.r0,hci.ok.r60,hci.ok.s0,hci.ok.s1,hci.ok.doc,hci.ok.hs,hci.ok.sq,hci.ok.own⟩,hci.rle,hci.base,by simp,by simp,by simp,by rw [tellL_len];simp;omega,fun m hm=>Or.inr (o2 m hm),fun _=>o1,fun e=>by simp at e,hci.ls,hci.heard⟩
 ·unfold joinW
  rw [if_neg (by rw [hj];simp),setC_put,hu,hd]
  have hmin:min (clAt w k).rev.toNat w.s.log.length=(clAt w k).rev.toNat:=by omega
  rw [hmin]
  have ht:=put3_trip h.shp hk { clAt w k with joined:=true } [] [] k
  simp only [if_true,trip,Prod.mk.injEq] at ht
  obtain ⟨e1,e2,e3⟩:=ht
  rw [tell_put _ _ _ (put3_shp h.shp _ _ _) hk (by rw [e1]) (by rw [e3];simp;omega),e1,e2,e3,put3_put3,List.nil_append]
theorem inv_join (h:Inv w) (hk:k < w.cl.length) (he:(joinW w k).2=0):Inv (joinW w k).1:=by
 cases hj:(clAt w k).joined with
 | true=>unfold joinW at he;rw [if_pos hj] at he;simp at he
 | false =>
  obtain ⟨h1,h2⟩:=join_put h hk hj
  rw [h2]
  exact h1.upK (by simp [put3,modL_len];exact hk)
theorem inv_step {pg:Bs→List It × Int} {x:Hap} (h:Inv w) (he:(stepW pg w x).2=0):Inv (stepW pg w x).1:=by
 unfold stepW at he ⊢
 split at he;· simp at he
 rename_i h1
 rw [if_neg h1]
 have hk:x.client.toNat < w.cl.length:=by omega
 split at he
 ·rename_i h2;rw [if_pos h2];exact inv_edit h hk he
 rename_i h2;rw [if_neg h2]
 split at he
 ·rename_i h3
  rw [if_pos h3]
  unfold pasteW at he ⊢
  split at he;· rename_i h4;exact absurd he h4
  rename_i h4;rw [if_neg h4]
  split at he;· simp at he
  rename_i h5;rw [if_neg h5]
  exact inv_edit h hk he
 rename_i h3;rw [if_neg h3]
 split at he
 ·rename_i h4;rw [if_pos h4];exact inv_serve h hk he
 rename_i h4;rw [if_neg h4]
 split at he
 ·rename_i h5;rw [if_pos h5];exact inv_hear h hk he
 rename_i h5;rw [if_neg h5]
 split at he
 ·rename_i h6;rw [if_pos h6];exact h.cutK hk fun i hi e=>by simp at e
 rename_i h6;rw [if_neg h6]
 split at he
 ·rename_i h7;rw [if_pos h7];exact inv_join h hk he
 ·simp at he
theorem chkMsgs_ok {l:List Msg} (h:∀ m ∈ l,m.e.o=[]∨chkOp m.e.o=0):chkMsgs l=0:=by
 induction l with
 | nil=>rfl
 | cons m l ih =>
  have ih:=ih fun x hx=>h x (List.mem_cons_of_mem _ hx)
  simp only [chkMsgs]
  split
  ·exact ih
  ·rename_i h1
   rcases h m (List.mem_cons_self ..) with h2 | h2
   ·exact absurd h2 h1
   ·rw [if_neg (by simp [h2]),ih]
theorem chkQs_ok {l:List (List Msg)} (h:∀ q ∈ l,chkQ q=0):chkQs l=0:=by
 induction l with
 | nil=>rfl
 | cons q l ih=>simp only [chkQs];rw [if_neg (by simp [h q (List.mem_cons_self ..)])];exact ih fun x hx=>h x (List.mem_cons_of_mem _ hx)
theorem chkCls_ok {l:List Cl} (h:∀ c ∈ l,chkCl c=0):chkCls l=0:=by
 induction l with
 | nil=>rfl
 | cons q l ih=>simp only [chkCls];rw [if_neg (by simp [h q (List.mem_cons_self ..)])];exact ih fun x hx=>h x (List.mem_cons_of_mem _ hx)
theorem mem_getD {α:Type} {l:List α} {x d:α} (h:x ∈ l):∃ k,k < l.length∧l.getD k d=x:=by
 obtain ⟨k,hk,e⟩:=List.getElem_of_mem h
 exact ⟨k,hk,by simp [List.getD_eq_getElem?_getD,List.getElem?_eq_getElem hk,e]⟩
theorem Inv.chk (h:Inv w):chkWd w=0:=by
 have h1:=h.n1;have h4:=h.n4;have hu:=h.ul;have hd:=h.dl
 unfold chkWd
 rw [if_neg (by simp [h.srv.chk]),if_neg (by omega),if_neg,chkQs_ok]
 ·intro q hq
  rcases List.mem_append.1 hq with hq | hq
  ·obtain ⟨k,hk,e⟩:=mem_getD (d:=[]) hq
   have:=h.ci k (by omega)
   have e':upAt w k=q:=e
   rw [e'] at this
   have hl:=this.ul
   unfold chkQ
   rw [if_neg (by omega)]
   exact chkMsgs_ok fun m hm=>Or.inr (this.uo m hm)
  ·obtain ⟨k,hk,e⟩:=mem_getD (d:=[]) hq
   have:=h.ci k (by omega)
   have e':downAt w k=q:=e
   rw [e'] at this
   have hl:=this.dl
   unfold chkQ
   rw [if_neg (by omega)]
   exact chkMsgs_ok this.dn
 ·rw [chkCls_ok]
  ·simp
  ·intro c hc
   obtain ⟨k,hk,e⟩:=mem_getD (d:=cl0) hc
   have:=(h.ci k hk).ok.chk
   have e':clAt w k=c:=e
   rw [e'] at this
   exact this
theorem inv_do {pg:Bs→List It × Int} {x:Hap} (h:Inv w):doW pg w x=(if (stepW pg w x).2≠0 then (wd0,(stepW pg w x).2) else stepW pg w x)∧((doW pg w x).2=0→Inv (doW pg w x).1):=by
 have e:doW pg w x=(if (stepW pg w x).2≠0 then (wd0,(stepW pg w x).2) else stepW pg w x):=by
  unfold doW;rw [if_neg (by simp [h.chk])]
 refine ⟨e,fun he=>?_⟩
 rw [e] at he ⊢
 split at he
 ·rename_i h1;exact absurd he h1
 ·rename_i h1;rw [if_neg h1];exact inv_step h he
def newW (d:List It) (n:Nat):Wd:=⟨⟨d,[],d⟩,List.replicate n ⟨0,d,d,0,[],[],true⟩,List.replicate n [],List.replicate n []⟩
theorem inv_new {d:List It} {n:Nat} (hd:chkDoc d=0) (h1:1≤n) (h4:n≤4):Inv (newW d n):=by
 have hc:∀ i,i < n→clAt (newW d n) i=⟨0,d,d,0,[],[],true⟩∧upAt (newW d n) i=[]∧downAt (newW d n) i=[]:=fun i hi=>by
  simp [newW,clAt,upAt,downAt,List.getD_eq_getElem?_getD,hi]
 refine InvX.mk3 (n:=n) ⟨by simp [newW],by simp [newW],hd,rfl⟩ ⟨by simp [newW],by simp [newW],by simp [newW]⟩ h1 h4 fun i hi=>?_
 obtain ⟨e1,e2,e3⟩:=hc i hi
 simp only [e1,e2,e3]
 refine ⟨⟨⟨by simp,by simp,by simp,by simp,hd,fun _=>rfl,fun e=>absurd rfl e,by simp [ownsP]⟩,by simp [newW],by simp [newW,foldG],by simp,by simp,by simp,by simp,by simp,fun _=>by simp [newW,tellL],fun _=>⟨rfl,rfl⟩,by simp [newW],by simp [newW]⟩,fun _ e=>absurd rfl e⟩
end
end Go.Mh
namespace Go.Mh
abbrev mOk (m:Msg):Prop:=m.e.o=[]∨chkOp m.e.o=0
abbrev qOk (q:List Msg):Prop:=q.length≤90∧∀ m ∈ q,mOk m
structure WOk (w:Wd):Prop where
 s:SrvOk w.s
 c1:1≤w.cl.length
 c4:w.cl.length≤4
 ul:w.up.length=w.cl.length
 dl:w.down.length=w.cl.length
 cl:∀ c ∈ w.cl,ClOk c
 qu:∀ q ∈ w.up,qOk q
 qd:∀ q ∈ w.down,qOk q
theorem chkMsgs_all {l:List Msg} (h:chkMsgs l=0):∀ m ∈ l,mOk m:=by
 induction l with
 | nil=>simp
 | cons m l ih =>
  unfold chkMsgs at h
  intro x hx
  split at h
  ·rename_i h1
   rcases List.mem_cons.1 hx with rfl | hx
   ·exact Or.inl h1
   ·exact ih h x hx
  ·rename_i h1
   split at h
   ·rename_i h2;exact absurd h h2
   ·rename_i h2
    rcases List.mem_cons.1 hx with rfl | hx
    ·exact Or.inr (Decidable.not_not.1 h2)
    ·exact ih h x hx
theorem chkQ_all {q:List Msg} (h:chkQ q=0):qOk q:=by
 unfold chkQ at h
 split at h
 ·simp at h
 ·exact ⟨by omega,chkMsgs_all h⟩
theorem chkQs_all {l:List (List Msg)} (h:chkQs l=0):∀ q ∈ l,qOk q:=by
 induction l with
 | nil=>simp
 | cons q l ih =>
  unfold chkQs at h
  split at h
  ·rename_i h2;exact absurd h h2
  ·rename_i h2
   intro x hx
   rcases List.mem_cons.1 hx with rfl | hx
   ·exact chkQ_all (Decidable.not_not.1 h2)
   ·exact ih h x hx
theorem chkCls_all {l:List Cl} (h:chkCls l=0):∀ c ∈ l,ClOk c:=by
 induction l with
 | nil=>simp
 | cons q l ih =>
  unfold chkCls at h
  split at h
  ·rename_i h2;exact absurd h h2
  ·rename_i h2
   intro x hx
   rcases List.mem_cons.1 hx with rfl | hx
   ·exact ClOk.of (Decidable.not_not.1 h2)
   ·exact ih h x hx
theorem WOk.of {w:Wd} (h:chkWd w=0):WOk w:=by
 unfold chkWd at h
 split at h;· rename_i h1;exact absurd h h1
 rename_i h1
 split at h;· simp at h
 rename_i h2
 split at h;· rename_i h3;exact absurd h h3
 rename_i h3
 have hq:=chkQs_all h
 exact ⟨SrvOk.of (Decidable.not_not.1 h1),by omega,by omega,by omega,by omega,chkCls_all (Decidable.not_not.1 h3),fun q hq'=>hq q (List.mem_append_left _ hq'),fun q hq'=>hq q (List.mem_append_right _ hq')⟩
theorem mem_modL {α:Type} {f:α→α} {k:Nat} {l:List α} {x:α} (h:x ∈ modL f k l):x ∈ l∨∃ y,y ∈ l∧x=f y:=by
 obtain ⟨i,hi⟩:=List.mem_iff_getElem?.1 h
 rw [modL_get] at hi
 split at hi
 ·cases e:l[i]? with
  | none=>rw [e] at hi;simp at hi
  | some y=>rw [e] at hi;simp at hi;exact Or.inr ⟨y,List.mem_of_getElem? e,hi.symm⟩
 ·exact Or.inl (List.mem_of_getElem? hi)
theorem mem_at {α:Type} {l:List α} {k:Nat} {d:α} (h:k < l.length):l.getD k d ∈ l:=by
 simp [List.getD_eq_getElem?_getD,List.getElem?_eq_getElem h]
section
variable {w:Wd} {k:Nat}
theorem WOk.clAt (h:WOk w) (hk:k < w.cl.length):ClOk (clAt w k):=h.cl _ (mem_at hk)
theorem WOk.upAt (h:WOk w) (hk:k < w.cl.length):qOk (upAt w k):=h.qu _ (mem_at (by rw [h.ul];exact hk))
theorem WOk.downAt (h:WOk w) (hk:k < w.cl.length):qOk (downAt w k):=h.qd _ (mem_at (by rw [h.dl];exact hk))
theorem ClOk.off {c:Cl} (h:ClOk c) (b:Bool):ClOk { c with joined:=b }:=⟨h.r0,h.r60,h.s0,h.s1,h.doc,h.hs,h.sq,h.own⟩
theorem qNil:qOk []:=⟨by simp,by simp⟩
theorem WOk.cut (h:WOk w) (k:Nat):WOk (cutW w k):=by
 refine ⟨h.s,by simp [cutW,modL_len];exact h.c1,by simp [cutW,modL_len];exact h.c4,by simp [cutW,modL_len];exact h.ul,by simp [cutW,modL_len];exact h.dl,fun c hc=>?_,fun q hq=>?_,fun q hq=>?_⟩
 ·rcases mem_modL hc with hc | ⟨y,hy,rfl⟩
  ·exact h.cl c hc
  ·exact (h.cl y hy).off _
 ·rcases mem_modL hq with hq | ⟨y,hy,rfl⟩
  ·exact h.qu q hq
  ·exact qNil
 ·rcases mem_modL hq with hq | ⟨y,hy,rfl⟩
  ·exact h.qd q hq
  ·exact qNil
theorem WOk.setC (h:WOk w) {c:Cl} (hc:ClOk c):WOk (setC w k c):=by
 refine ⟨h.s,by simp [Mh.setC,modL_len];exact h.c1,by simp [Mh.setC,modL_len];exact h.c4,by simp [Mh.setC,modL_len];exact h.ul,by simp [Mh.setC,modL_len];exact h.dl,fun x hx=>?_,h.qu,h.qd⟩
 rcases mem_modL hx with hx | ⟨y,hy,rfl⟩
 ·exact h.cl x hx
 ·exact hc
theorem WOk.upM (h:WOk w) (f:List Msg→List Msg) (hf:∀ q,q ∈ w.up→qOk (f q)):WOk { w with up:=modL f k w.up }:=by
 refine ⟨h.s,h.c1,h.c4,by simp [modL_len];exact h.ul,h.dl,h.cl,fun x hx=>?_,h.qd⟩
 rcases mem_modL hx with hx | ⟨y,hy,rfl⟩
 ·exact h.qu x hx
 ·exact hf y hy
theorem WOk.downM (h:WOk w) (f:List Msg→List Msg) (hf:∀ q,q ∈ w.down→qOk (f q)):WOk { w with down:=modL f k w.down }:=by
 refine ⟨h.s,h.c1,h.c4,h.ul,by simp [modL_len];exact h.dl,h.cl,h.qu,fun x hx=>?_⟩
 rcases mem_modL hx with hx | ⟨y,hy,rfl⟩
 ·exact h.qd x hx
 ·exact hf y hy
theorem WOk.srv (h:WOk w) {t:Srv} (ht:SrvOk t):WOk { w with s:=t }:=⟨ht,h.c1,h.c4,h.ul,h.dl,h.cl,h.qu,h.qd⟩
theorem push_ok {q:List Msg} {m:Msg} (h:qOk q) (hm:mOk m) (hl:q.length < 90):qOk (q ++ [m]):=⟨by simp;omega,fun x hx=>by
 rcases List.mem_append.1 hx with hx | hx
 ·exact h.2 x hx
 ·simp at hx;subst hx;exact hm⟩
theorem WOk.upW (h:WOk w) (hk:k < w.cl.length):WOk (upW w k):=by
 unfold Mh.upW
 split
 ·exact h
 ·rename_i h1
  split
  ·exact h.cut k
  ·rename_i h2
   rw [modL_congr (· ++ [⟨(Mh.clAt w k).rev,⟨k,(Mh.clAt w k).seq,(Mh.clAt w k).sent⟩⟩]) (fun _=>Mh.upAt w k ++ [⟨(Mh.clAt w k).rev,⟨k,(Mh.clAt w k).seq,(Mh.clAt w k).sent⟩⟩]) k w.up [] rfl]
   refine h.upM _ fun _ _=>push_ok (h.upAt hk) (Or.inr ?_) (by omega)
   exact sent_chk (h.clAt hk) fun e=>h1 (Or.inr e)
theorem WOk.downW (h:WOk w) (hk:k < w.cl.length) {m:Msg} (hm:mOk m):WOk (downW w k m):=by
 unfold Mh.downW
 split
 ·exact h
 ·split
  ·exact h.cut k
  ·rename_i h2
   rw [modL_congr (· ++ [m]) (fun _=>Mh.downAt w k ++ [m]) k w.down [] rfl]
   exact h.downM _ fun _ _=>push_ok (h.downAt hk) hm (by omega)
theorem downW_len (w:Wd) (k:Nat) (m:Msg):(Mh.downW w k m).cl.length=w.cl.length:=by
 unfold Mh.downW
 split
 ·rfl
 ·split
  ·simp [cutW,modL_len]
  ·rfl
theorem WOk.allDown (h:WOk w) {m:Msg} (hm:mOk m) (j:Nat) (hj:j≤w.cl.length):WOk (allDown w m j)∧(allDown w m j).cl.length=w.cl.length:=by
 induction j with
 | zero=>exact ⟨h,rfl⟩
 | succ j ih =>
  obtain ⟨h1,h2⟩:=ih (by omega)
  exact ⟨h1.downW (by omega) hm,(downW_len _ _ _).trans h2⟩
theorem WOk.downs {n:Int} (l:List En):∀ {w:Wd},WOk w→(∀ x ∈ l,chkOp x.o=0)→WOk (downs w n l):=by
 induction l with
 | nil=>intro w h _;exact h
 | cons x l ih =>
  intro w h hl
  unfold Mh.downs
  refine ih (h.allDown (m:=⟨n,x⟩) (Or.inr (hl x (List.mem_cons_self ..))) _ (Nat.le_refl _)).1 fun y hy=>hl y (List.mem_cons_of_mem _ hy)
theorem WOk.tell (l:List En):∀ {w:Wd} (i:Nat),WOk w→k < w.cl.length→(∀ x ∈ l,chkOp x.o=0)→WOk (tell w k i l)∧(tell w k i l).cl.length=w.cl.length:=by
 induction l with
 | nil=>intro w _ h _ _;exact ⟨h,rfl⟩
 | cons x l ih =>
  intro w i h hk hl
  unfold Mh.tell
  have h1:WOk (Mh.downW w k ⟨(i:Int)+1,x⟩):=h.downW hk (Or.inr (hl x (List.mem_cons_self ..)))
  have h2:=downW_len w k ⟨(i:Int)+1,x⟩
  obtain ⟨h3,h4⟩:=ih (i+1) h1 (by omega) fun y hy=>hl y (List.mem_cons_of_mem _ hy)
  exact ⟨h3,h4.trans h2⟩
theorem en_chk {x:En} (h:chkEn x=0):chkOp x.o=0:=by
 unfold chkEn at h
 split at h;· simp at h
 split at h;· simp at h
 exact h
theorem setC_len' (w:Wd) (k:Nat) (c:Cl):(Mh.setC w k c).cl.length=w.cl.length:=by simp [Mh.setC,modL_len]
theorem WOk.edit (h:WOk w) (hk:k < w.cl.length) {o:List Pt} (he:(editW w k o).2=0):WOk (editW w k o).1:=by
 unfold editW at he ⊢
 split at he;· rename_i h1;exact absurd he h1
 rename_i h1
 rw [if_neg h1]
 obtain ⟨⟨x,b,e⟩,hd⟩:∃ r,doC (Mh.clAt w k) o=r:=⟨_,rfl⟩
 rw [hd] at h1 ⊢
 have he0:e=0:=Decidable.not_not.1 h1
 subst he0
 have hx:=(law_do hd).2.2.1
 show WOk (if b=true then _ else _)
 split
 ·exact (h.setC hx).upW (by rw [setC_len'];exact hk)
 ·exact h.setC hx
theorem WOk.hear (h:WOk w) (hk:k < w.cl.length) (_:(hearW w k).2=0):WOk (hearW w k).1:=by
 unfold hearW
 have hq:=h.downAt hk
 cases hd:Mh.downAt w k with
 | nil=>exact h
 | cons m q =>
  rw [hd] at hq
  have hp:WOk { w with down:=modL (fun _=>q) k w.down }:=h.downM _ fun _ _=>⟨by have:=hq.1;simp at this;omega,fun x hx=>hq.2 x (List.mem_cons_of_mem _ hx)⟩
  obtain ⟨⟨x,b,e⟩,hh⟩:∃ r,hearC (Mh.clAt w k) k m=r:=⟨_,rfl⟩
  show WOk (if (hearC (Mh.clAt w k) k m).2.2≠0 then _ else _:Wd × Int).1
  rw [hh]
  show WOk (if e≠0 then _ else _:Wd × Int).1
  split
  ·exact hp.cut k
  ·rename_i h1
   have he0:e=0:=Decidable.not_not.1 h1
   subst he0
   have hx:=(law_hear hh).1
   show WOk (if b=true then _ else _)
   split
   ·exact (hp.setC hx).upW (by rw [setC_len'];exact hk)
   ·exact hp.setC hx
theorem WOk.serve (h:WOk w) (hk:k < w.cl.length) (_:(serveW w k).2=0):WOk (serveW w k).1:=by
 unfold serveW
 have hq:=h.upAt hk
 cases hd:Mh.upAt w k with
 | nil=>exact h
 | cons m q =>
  rw [hd] at hq
  have hp:WOk { w with up:=modL (fun _=>q) k w.up }:=h.upM _ fun _ _=>⟨by have:=hq.1;simp at this;omega,fun x hx=>hq.2 x (List.mem_cons_of_mem _ hx)⟩
  obtain ⟨⟨t,e⟩,hh⟩:∃ r,takeP w.s m.rev ⟨k,m.e.seq,m.e.o⟩=r:=⟨_,rfl⟩
  show WOk (if (takeP w.s m.rev ⟨k,m.e.seq,m.e.o⟩).2≠0 then _ else _:Wd × Int).1
  rw [hh]
  show WOk (if e≠0 then _ else _:Wd × Int).1
  split
  ·exact hp.downW hk (Or.inl rfl)
  ·rename_i h1
   have he0:e=0:=Decidable.not_not.1 h1
   subst he0
   have ht:=SrvOk.of (law_folds hh).1
   have hs:WOk { w with up:=modL (fun _=>q) k w.up,s:=t }:=hp.srv ht
   exact WOk.downs _ hs fun x hx=>en_chk (ht.ens x (List.mem_of_mem_drop hx))
theorem WOk.join (h:WOk w) (hk:k < w.cl.length) (_:(joinW w k).2=0):WOk (joinW w k).1:=by
 unfold joinW
 split
 ·exact h
 ·have h1:=h.setC (k:=k) ((h.clAt hk).off true)
  have hl:k < (Mh.setC w k { Mh.clAt w k with joined:=true }).cl.length:=by rw [setC_len'];exact hk
  obtain ⟨h2,h3⟩:=WOk.tell (k:=k) (w.s.log.drop (min (Mh.clAt w k).rev.toNat w.s.log.length)) (min (Mh.clAt w k).rev.toNat w.s.log.length) h1 hl fun x hx=>en_chk (h.s.ens x (List.mem_of_mem_drop hx))
  exact h2.upW (Nat.lt_of_lt_of_eq hl h3.symm)
theorem WOk.step {pg:Bs→List It × Int} {x:Hap} (h:WOk w) (he:(stepW pg w x).2=0):WOk (stepW pg w x).1:=by
 unfold stepW at he ⊢
 split at he;· simp at he
 rename_i h0
 have hk:x.client.toNat < w.cl.length:=by omega
 rw [if_neg h0]
 split at he
 ·rename_i h1;rw [if_pos h1];exact h.edit hk he
 rename_i h1;rw [if_neg h1]
 split at he
 ·rename_i h2;rw [if_pos h2]
  unfold pasteW at he ⊢
  split at he;· rename_i h3;exact absurd he h3
  rename_i h3;rw [if_neg h3]
  split at he;· simp at he
  rename_i h4;rw [if_neg h4]
  exact h.edit hk he
 rename_i h2;rw [if_neg h2]
 split at he
 ·rename_i h3;rw [if_pos h3];exact h.serve hk he
 rename_i h3;rw [if_neg h3]
 split at he
 ·rename_i h4;rw [if_pos h4];exact h.hear hk he
 rename_i h4;rw [if_neg h4]
 split at he
 ·rename_i h5;rw [if_pos h5];exact h.cut _
 rename_i h5;rw [if_neg h5]
 split at he
 ·rename_i h6;rw [if_pos h6];exact h.join hk he
 ·simp at he
end
def runW (pg:Bs→List It × Int):Wd→List Hap→Wd × List Int
 | w,[]=>(w,[])
 | w,x :: l=>((runW pg (if (stepW pg w x).2=0 then (stepW pg w x).1 else w) l).1,(stepW pg w x).2 :: (runW pg (if (stepW pg w x).2=0 then (stepW pg w x).1 else w) l).2)
def runP (pg:Bs→List It × Int) (w:Wd) (l:List Hap):Wd × List Int × Int:=
 if chkWd w≠0 then (wd0,[],chkWd w) else if 200 < l.length then (wd0,[],2) else ((runW pg w l).1,(runW pg w l).2,0)
def next (pg:Bs→List It × Int) (w:Wd) (x:Hap):Wd:=if (stepW pg w x).2=0 then (stepW pg w x).1 else w
theorem WOk.next {pg:Bs→List It × Int} {w:Wd} (h:WOk w) (x:Hap):WOk (next pg w x):=by
 unfold Mh.next
 split
 ·rename_i h1;exact h.step h1
 ·exact h
theorem runW_drop {pg:Bs→List It × Int} {w:Wd} {l:List Hap} {k:Nat} {x:Hap} (h:l[k]?=some x):runW pg w (l.drop k)=((runW pg (next pg w x) (l.drop (k+1))).1,(stepW pg w x).2 :: (runW pg (next pg w x) (l.drop (k+1))).2):=by
 obtain ⟨hk,e⟩:=List.getElem?_eq_some_iff.1 h
 rw [List.drop_eq_getElem_cons hk,e,runW,next]
end Go.Mh
namespace Go.Mh
def ButJ (c d:Cl):Prop:={ d with joined:=c.joined }=c
theorem ButJ.off (c:Cl) (b:Bool):ButJ c { c with joined:=b }:=rfl
structure SameJ (w w':Wd):Prop where
 s:w'.s=w.s
 len:w'.cl.length=w.cl.length
 cl:∀ i,ButJ (clAt w i) (clAt w' i)
theorem SameJ.refl (w:Wd):SameJ w w:=⟨rfl,rfl,fun _=>rfl⟩
theorem getD_modL_all {α:Type} (f:α→α) (k:Nat) (l:List α) (i:Nat) (d:α):(modL f k l).getD i d=if i=k∧i < l.length then f (l.getD i d) else l.getD i d:=by
 by_cases hi:i < l.length
 ·rw [getD_modL f k l i d hi]
  by_cases e:i=k <;> simp [e,hi]
  subst e;intro h;omega
 ·have e1:(modL f k l).getD i d=d:=by simp [List.getD_eq_getElem?_getD,modL_get,List.getElem?_eq_none (Nat.not_lt.1 hi)]
  have e2:l.getD i d=d:=by simp [List.getD_eq_getElem?_getD,List.getElem?_eq_none (Nat.not_lt.1 hi)]
  rw [e1,e2,if_neg (by omega)]
section
variable {w:Wd} {k:Nat}
theorem cutW_J:SameJ w (cutW w k):=⟨rfl,by simp [cutW,modL_len],fun i=>by
 simp only [cutW,clAt]
 rw [getD_modL_all]
 split
 ·exact ButJ.off _ _
 ·rfl⟩
theorem downW_J (m:Msg):SameJ w (downW w k m):=by
 unfold downW
 split
 ·exact SameJ.refl _
 ·split
  ·exact cutW_J
  ·exact ⟨rfl,rfl,fun _=>rfl⟩
end
end Go.Mh
namespace Go.Mh
theorem cutC_eq (s:Bs):cutC s=(Lib.cut s [45,45,62]).2.1:=by
 induction s with
 | nil=>rfl
 | cons c r ih =>
  unfold cutC
  by_cases h:[45,45,62].isPrefixOf (c :: r)=true
  ·rw [if_pos h]
   simp only [Lib.cut,Lib.index,h,if_true]
   rfl
  ·rw [if_neg h,ih]
   by_cases hn:Lib.index r [45,45,62]=-1
   ·have hi:Lib.index (c :: r) [45,45,62]=-1:=by
     unfold Lib.index
     rw [if_neg h,hn]
     rfl
    unfold Lib.cut
    rw [hi,hn]
    rfl
   ·have h0:=Lib.index_ge r [45,45,62]
    have h1:0≤Lib.index r [45,45,62]:=by omega
    have h2:(Lib.index r [45,45,62] == -1)=false:=by simpa using hn
    have hi:Lib.index (c :: r) [45,45,62]=Lib.index r [45,45,62]+1:=by
     rw [Lib.index,if_neg h,if_neg (by simpa using hn)]
    unfold Lib.cut
    rw [hi,if_pos h1,if_pos (by omega)]
    have h3:(Lib.index r [45,45,62]+1).toNat=(Lib.index r [45,45,62]).toNat+1:=by omega
    show List.drop _ r=List.drop _ (c :: r)
    rw [h3,Nat.add_right_comm,List.drop_succ_cons]
theorem valueT_len (s:Bs):(valueT s).1.length≤s.length:=by
 unfold valueT
 have hb:=(suf_dw isSp s).len
 cases h:blanks s with
 | nil=>simp
 | cons c r =>
  unfold blanks at h
  rw [h] at hb
  simp only
  split
  ·unfold cut1
   split
   ·have:=(List.takeWhile_prefix (l:=r) (· != c)).length_le
    simp at hb ⊢;omega
   ·simp at hb ⊢;omega
  ·have:=(List.takeWhile_prefix (l:=c :: r) nb1).length_le
   simp only;omega
theorem valOf_len1 (s:Bs):(valOf s).1.length≤s.length:=by
 unfold valOf
 have hb:=(suf_dw isSp s).len
 cases h:blanks s with
 | nil=>simp
 | cons c r =>
  unfold blanks at h
  rw [h] at hb
  simp only
  split
  ·have:=valueT_len r
   simp at hb;omega
  ·simp
theorem attrF_len (n:Nat):∀ (s href h r:Bs) (found:Bool) (M:Nat),href.length≤M→s.length≤M→attrF n s href found=some (h,r)→h.length≤M:=by
 induction n with
 | zero=>intro s href h r found M _ _ e;simp [attrF] at e
 | succ n ih =>
  intro s href h r found M h1 h2 e
  unfold attrF at e
  have hb:=(suf_dw sk2 s).len
  cases hd:s.dropWhile sk2 with
  | nil=>rw [hd] at e;simp at e
  | cons c t =>
   rw [hd] at e hb
   simp only at e
   split at e
   ·simp at e;obtain ⟨rfl,_⟩:=e;exact h1
   ·have h3:=(suf_valOf (t.dropWhile nb3)).len
    have h4:=(suf_dw nb3 t).len
    have h5:=valOf_len1 (t.dropWhile nb3)
    simp at hb
    refine ih _ _ _ _ _ M ?_ (by omega) e
    split
    ·omega
    ·exact h1
theorem tagT_len {s n h r:Bs} (e:tagT s=some (n,h,r)):h.length≤s.length:=by
 unfold tagT at e
 cases ht:attrT (s.dropWhile nb2) [] false with
 | none=>rw [ht] at e;simp at e
 | some x =>
  obtain ⟨h',r'⟩:=x
  rw [ht] at e
  simp at e
  obtain ⟨_,rfl,_⟩:=e
  have hb:=(suf_dw nb2 s).len
  exact attrF_len _ _ _ _ _ _ s.length (by simp) hb ht
theorem head_dw {p:UInt8→Bool} (s:Bs):s.dropWhile p=[]∨∃ c u,s.dropWhile p=c :: u∧p c=false:=by
 induction s with
 | nil=>exact Or.inl rfl
 | cons c s ih =>
  simp only [List.dropWhile_cons]
  split
  ·exact ih
  ·rename_i h;exact Or.inr ⟨c,s,rfl,by simpa using h⟩
def pageP (s:Bs):List Tok × Int:=if 20000 < s.length then ([],2) else (pageT s,0)
theorem page_step {s text rest:Bs} (h1:s.takeWhile (· != 60)=text) (h2:s.dropWhile (· != 60)=rest):pageT s=(if text=[] then [] else [tText (readE text)]) ++ markT rest:=by
 rw [pageT_eq,h1,h2]
end Go.Mh
