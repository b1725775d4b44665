import Derived.OrdersHeld
import Derived.Deep.RegionHeld3
namespace Go.Mh
open Go
section
variable {P:Program} {ops:Array Oper} {Q:Exit→Act→World→Prop} {md:Region.Mode} {b:Nat} {C:World→Prop}
def wpAnyB (P:Program) (md:Region.Mode) (ops:Array Oper) (Q:Exit→Act→World→Prop) (b:Nat) (C:World→Prop):Nat→Array Bool→Act→World→Prop
 | 0,listed,a,w=>Region.ready md ops listed=[]∧Q .normal a w
 | fuel+1,listed,a,w =>
  (Region.ready md ops listed=[]→Q .normal a w) ∧
  ∀ i ∈ Region.ready md ops listed,wpOp P ops Q i (fun a' w'=>((listed.setIfInBounds i true).getD b true=false→C w')∧wpAnyB P md ops Q b C fuel (listed.setIfInBounds i true) a' w') a w
theorem wpAny_of_B:∀ (fuel:Nat) (listed:Array Bool) (a:Act) (w:World),wpAnyB P md ops Q b C fuel listed a w→wpAny P md ops Q fuel listed a w
 | 0,_,_,_,h=>h
 | fuel+1,_,_,_,h=>⟨h.1,fun i hi=>wpOp_mono (fun a' w' h'=>wpAny_of_B fuel _ a' w' h'.2) (h.2 i hi)⟩
def waitsFor (md:Region.Mode) (ops:Array Oper) (b i:Nat):Bool:=
 match ops[b]? with
 | some o=>o.after.any (fun e=>Region.binds md e && e.on == i)
 | none=>false
theorem not_ready_of_waits {i:Nat} {listed:Array Bool} (hw:waitsFor md ops b i=true) (hi:listed.getD i true=false):b ∉ Region.ready md ops listed:=fun hb=>by
 obtain ⟨_,o,ho,hall⟩:=mem_ready.1 hb
 unfold waitsFor at hw
 rw [ho] at hw
 simp only at hw
 rw [← Array.any_toList,List.any_eq_true] at hw
 obtain ⟨e,he,h2⟩:=hw
 rw [Array.mem_toList_iff] at he
 simp only [Bool.and_eq_true,beq_iff_eq] at h2
 have h1:=hall e he h2.1
 rw [h2.2] at h1
 rcases Nat.lt_or_ge i listed.size with h' | h'
 ·simp [h'] at hi h1;rw [hi] at h1;cases h1
 ·simp [Array.getElem?_eq_none h'] at h1
theorem wpAnyB_first {i:Nat} {oi:Oper} {v:Value} (hi:ops[i]?=some oi) (hsel:∀ (j:Nat) (o:Oper) cs b,ops[j]?=some o→o.op≠.select cs b)
  (hQ:∀ c a w,Q (.panic c) (a.put oi.dst v) w→Q (.panic c) a w) (hib:i≠b) (hwt:waitsFor md ops b i=true) :
  ∀ (fuel:Nat) (listed:Array Bool) (a:Act) (w:World),
   (∀ j oj,ops[j]?=some oj→j≠i→listed.getD j true=false→(∀ e ∈ oj.after,Region.binds md e=true→e.on≠i)→oi.apart ops oj=true) →
   i ∈ Region.ready md ops listed→YieldsIf P ops C oi v a→C w→listed.getD b true=false →
   wpAnyB P md ops Q b C fuel (listed.setIfInBounds i true) (a.put oi.dst v) w→wpAnyB P md ops Q b C (fuel+1) listed a w:=by
 intro fuel
 induction fuel with
 | zero =>
  intro listed a w _ hr hy hS hlb H
  refine ⟨fun h=>(by rw [h] at hr;cases hr),fun j hj=>?_⟩
  by_cases hji:j=i
  ·subst hji;exact hy.wpOp hi hS ⟨fun _=>hS,H⟩
  ·have:=ready_mono hj hji
   rw [H.1] at this
   cases this
 | succ fuel ih =>
  intro listed a w hfree hr hy hS hlb H
  refine ⟨fun h=>(by rw [h] at hr;cases hr),fun j hj=>?_⟩
  by_cases hji:j=i
  ·subst hji;exact hy.wpOp hi hS ⟨fun _=>hS,H⟩
  ·have hjb:j≠b:=fun h=>not_ready_of_waits hwt (mem_ready.1 hr).1 (h ▸ hj)
   have h1:=H.2 j (ready_mono hj hji)
   obtain ⟨hjun,oj,hoj,hall⟩:=mem_ready.1 hj
   have hnot:∀ e ∈ oj.after,Region.binds md e=true→e.on≠i:=fun e he hb heq=>by
    have h1:=hall e he hb
    have h0:=(mem_ready.1 hr).1
    rw [heq] at h1
    rcases Nat.lt_or_ge i listed.size with h' | h'
    ·simp [h'] at h0 h1;rw [h0] at h1;cases h1
    ·simp [Array.getElem?_eq_none h'] at h1
   have h2:=wpOp_putIf hoj (hfree j oj hoj hji hjun hnot) (fun cs b=>hsel i oi cs b hi) (fun cs b=>hsel j oj cs b hoj) hQ hy h1
   have hfree':∀ k ok,ops[k]?=some ok→k≠i→(listed.setIfInBounds j true).getD k true=false →
     (∀ e ∈ ok.after,Region.binds md e=true→e.on≠i)→oi.apart ops ok=true:=fun k ok hk hki hun hno=>by
    refine hfree k ok hk hki ?_ hno
    by_cases hjk:j=k
    ·subst hjk;exact hjun
    ·rw [getD_set_ne true hjk] at hun;exact hun
   have hb1:(listed.setIfInBounds j true).getD b true=false:=by rw [getD_set_ne true hjb];exact hlb
   refine wpOp_mono (fun a' w' h3=>?_) h2
   have hC:C w':=h3.2.1 (by rw [getD_set_ne true hjb,getD_set_ne true hib];exact hlb)
   refine ⟨fun _=>hC,ih (listed.setIfInBounds j true) a' w' hfree' (ready_mono hr (Ne.symm hji)) h3.1 hC hb1 ?_⟩
   rw [Array.setIfInBounds_comm _ _ hji]
   exact h3.2.2
theorem wpAnyB_take (i:Nat) {oi:Oper} {v:Value} {fuel:Nat} {listed:Array Bool} {a:Act} {w:World} (hi:ops[i]?=some oi)
  (hs:Region.noSelect ops=true) (hf:Region.free md ops listed i=true) (hr:(Region.ready md ops listed).contains i=true) (hwt:waitsFor md ops b i=true) (hlb:listed.getD b true=false) (hib:i≠b)
  (hQ:∀ c a w,Q (.panic c) (a.put oi.dst v) w→Q (.panic c) a w) (hy:YieldsIf P ops C oi v a) (hC:C w)
  (h:wpAnyB P md ops Q b C fuel (listed.setIfInBounds i true) (a.put oi.dst v) w):wpAnyB P md ops Q b C (fuel+1) listed a w:=
 wpAnyB_first hi (Region.noSelect_spec hs) hQ hib hwt fuel listed a w (Region.free_spec hi hf) (by simpa using hr) hy hC hlb h
theorem wpAnyB_step (i:Nat) {oi:Oper} {fuel:Nat} {listed:Array Bool} {a:Act} {w:World} (hi:ops[i]?=some oi) (hr:Region.ready md ops listed=[i])
  (h:∀ K':Act→World→Prop,Shut (∀ a w,C w→wpAnyB P md ops Q b C fuel (listed.setIfInBounds i true) a w→K' a w)→if Region.wanted oi (yielded ops a.tmps)=true then Oper.wp P oi a w K' Q else K' (a.put oi.dst undef) w) :
  wpAnyB P md ops Q b C (fuel+1) listed a w:=
 ⟨fun h0=>by (rw [hr] at h0;cases h0),fun j hj=>by
  rw [hr] at hj
  obtain rfl:j=i:=by simpa using hj
  exact wpOp_step hi fun K' hK=>h K' fun a w hC hW=>hK a w ⟨fun _=>hC,hW⟩⟩
theorem wpAnyB_last (i:Nat) {oi:Oper} {fuel:Nat} {listed:Array Bool} {a:Act} {w:World} (hi:ops[i]?=some oi) (hr:Region.ready md ops listed=[i]) (hb:(listed.setIfInBounds i true).getD b true=true)
  (h:∀ K':Act→World→Prop,Shut (∀ a w,wpAnyB P md ops Q b C fuel (listed.setIfInBounds i true) a w→K' a w)→if Region.wanted oi (yielded ops a.tmps)=true then Oper.wp P oi a w K' Q else K' (a.put oi.dst undef) w) :
  wpAnyB P md ops Q b C (fuel+1) listed a w:=
 ⟨fun h0=>by (rw [hr] at h0;cases h0),fun j hj=>by
  rw [hr] at hj
  obtain rfl:j=i:=by simpa using hj
  exact wpOp_step hi fun K' hK=>h K' fun a w hW=>hK a w ⟨fun h0=>by (rw [hb] at h0;cases h0),hW⟩⟩
theorem wpAnyB_done {listed:Array Bool} {a:Act} {w:World} (hr:Region.ready md ops listed=[]) (h:Q .normal a w):∀ fuel,wpAnyB P md ops Q b C fuel listed a w
 | 0=>⟨hr,h⟩
 | _+1=>⟨fun _=>h,by rw [hr];simp⟩
theorem wp_region_B (b:Nat) (C:World→Prop) {id:Nat} {a:Act} {w:World} (hm:P.follows .mixedOrders=true)
  (h:wpAnyB P .any ops Q b C ops.size (Array.replicate ops.size false) a w.drew):(Code.region id ops true).wp P Q a w:=
 wp_region_any hm (wpAny_of_B _ _ _ _ h)
end
end Go.Mh
namespace Go.Mh
open Go
section
variable {P:Program} {ops:Array Oper} {Q:Exit→Act→World→Prop} {md:Region.Mode} {b:Nat} {C:World→Prop}
def waitsT (md:Region.Mode) (ops:Array Oper) (i:Nat):Nat→Nat→Bool
 | 0,_=>false
 | n+1,b=>match ops[b]? with
  | some o=>o.after.any (fun e=>Region.binds md e && (e.on == i || waitsT md ops i n e.on))
  | none=>false
def ClosedT (md:Region.Mode) (ops:Array Oper) (listed:Array Bool):Prop:=
 ∀ j o,ops[j]?=some o→listed.getD j false=true→∀ e ∈ o.after,Region.binds md e=true→listed.getD e.on false=true
def closedB (md:Region.Mode) (ops:Array Oper) (listed:Array Bool):Bool:=
 (List.range ops.size).all fun j=>!(listed.getD j false) || ((ops[j]?).map (·.after.all fun e=>!Region.binds md e || listed.getD e.on false)).getD true
theorem closedB_spec {listed:Array Bool} (h:closedB md ops listed=true):ClosedT md ops listed:=by
 intro j o ho hj e he hb
 have hlt:j < ops.size:=(Array.getElem?_eq_some_iff.1 ho).1
 unfold closedB at h
 rw [List.all_eq_true] at h
 have h1:=h j (List.mem_range.2 hlt)
 rw [ho,hj] at h1
 simp only [Bool.not_true,Bool.false_or,Option.map_some,Option.getD_some] at h1
 rw [← Array.all_toList,List.all_eq_true] at h1
 have h2:=h1 e (Array.mem_toList_iff.2 he)
 rw [hb] at h2
 simpa using h2
theorem getD_ff {listed:Array Bool} {i:Nat} (h:listed.getD i true=false):listed.getD i false=false:=by
 rcases Nat.lt_or_ge i listed.size with h' | h'
 ·simp [h'] at h ⊢;exact h
 ·simp [Array.getElem?_eq_none h'] at h
theorem waitsT_not {i:Nat} {listed:Array Bool} (hc:ClosedT md ops listed) (hi:listed.getD i true=false):∀ (n b:Nat),waitsT md ops i n b=true →
  ∃ o,ops[b]?=some o∧¬ ∀ e ∈ o.after,Region.binds md e=true→listed.getD e.on false=true:=by
 intro n
 induction n with
 | zero=>intro b h;simp [waitsT] at h
 | succ n ih =>
  intro b h
  unfold waitsT at h
  cases ho:ops[b]? with
  | none=>rw [ho] at h;simp at h
  | some o =>
   rw [ho] at h
   simp only at h
   refine ⟨o,rfl,fun hall=>?_⟩
   rw [← Array.any_toList,List.any_eq_true] at h
   obtain ⟨e,he,h2⟩:=h
   rw [Array.mem_toList_iff] at he
   simp only [Bool.and_eq_true,Bool.or_eq_true,beq_iff_eq] at h2
   have h1:=hall e he h2.1
   rcases h2.2 with h3 | h3
   ·rw [h3,getD_ff hi] at h1;cases h1
   ·obtain ⟨o',ho',hn⟩:=ih _ h3
    exact hn (hc _ _ ho' h1)
theorem not_ready_of_waitsT {n i:Nat} {listed:Array Bool} (hc:ClosedT md ops listed) (hw:waitsT md ops i n b=true) (hi:listed.getD i true=false):b ∉ Region.ready md ops listed:=fun hb=>by
 obtain ⟨_,o,ho,hall⟩:=mem_ready.1 hb
 obtain ⟨o',ho',hn⟩:=waitsT_not hc hi _ _ hw
 rw [ho] at ho'
 cases ho'
 exact hn hall
theorem ClosedT.step {j:Nat} {listed:Array Bool} (hc:ClosedT md ops listed) (hj:j ∈ Region.ready md ops listed):ClosedT md ops (listed.setIfInBounds j true):=by
 obtain ⟨_,o,ho,hall⟩:=mem_ready.1 hj
 intro k ok hk hl e he hb
 by_cases hkj:k=j
 ·subst hkj
  rw [ho] at hk
  cases hk
  exact getD_set_true (hall e he hb)
 ·rw [getD_set_ne false (Ne.symm hkj)] at hl
  exact getD_set_true (hc k ok hk hl e he hb)
theorem wpAnyT_first {n i:Nat} {oi:Oper} {v:Value} (hi:ops[i]?=some oi) (hsel:∀ (j:Nat) (o:Oper) cs b,ops[j]?=some o→o.op≠.select cs b)
  (hQ:∀ c a w,Q (.panic c) (a.put oi.dst v) w→Q (.panic c) a w) (hib:i≠b) (hwt:waitsT md ops i n b=true) :
  ∀ (fuel:Nat) (listed:Array Bool) (a:Act) (w:World),
   (∀ j oj,ops[j]?=some oj→j≠i→listed.getD j true=false→(∀ e ∈ oj.after,Region.binds md e=true→e.on≠i)→oi.apart ops oj=true) →
   ClosedT md ops listed→i ∈ Region.ready md ops listed→YieldsIf P ops C oi v a→C w→listed.getD b true=false →
   wpAnyB P md ops Q b C fuel (listed.setIfInBounds i true) (a.put oi.dst v) w→wpAnyB P md ops Q b C (fuel+1) listed a w:=by
 intro fuel
 induction fuel with
 | zero =>
  intro listed a w _ _ hr hy hS hlb H
  refine ⟨fun h=>(by rw [h] at hr;cases hr),fun j hj=>?_⟩
  by_cases hji:j=i
  ·subst hji;exact hy.wpOp hi hS ⟨fun _=>hS,H⟩
  ·have:=ready_mono hj hji
   rw [H.1] at this
   cases this
 | succ fuel ih =>
  intro listed a w hfree hcl hr hy hS hlb H
  refine ⟨fun h=>(by rw [h] at hr;cases hr),fun j hj=>?_⟩
  by_cases hji:j=i
  ·subst hji;exact hy.wpOp hi hS ⟨fun _=>hS,H⟩
  ·have hjb:j≠b:=fun h=>not_ready_of_waitsT hcl hwt (mem_ready.1 hr).1 (h ▸ hj)
   have h1:=H.2 j (ready_mono hj hji)
   obtain ⟨hjun,oj,hoj,hall⟩:=mem_ready.1 hj
   have hnot:∀ e ∈ oj.after,Region.binds md e=true→e.on≠i:=fun e he hb heq=>by
    have h1:=hall e he hb
    have h0:=(mem_ready.1 hr).1
    rw [heq] at h1
    rcases Nat.lt_or_ge i listed.size with h' | h'
    ·simp [h'] at h0 h1;rw [h0] at h1;cases h1
    ·simp [Array.getElem?_eq_none h'] at h1
   have h2:=wpOp_putIf hoj (hfree j oj hoj hji hjun hnot) (fun cs b=>hsel i oi cs b hi) (fun cs b=>hsel j oj cs b hoj) hQ hy h1
   have hfree':∀ k ok,ops[k]?=some ok→k≠i→(listed.setIfInBounds j true).getD k true=false →
     (∀ e ∈ ok.after,Region.binds md e=true→e.on≠i)→oi.apart ops ok=true:=fun k ok hk hki hun hno=>by
    refine hfree k ok hk hki ?_ hno
    by_cases hjk:j=k
    ·subst hjk;exact hjun
    ·rw [getD_set_ne true hjk] at hun;exact hun
   have hb1:(listed.setIfInBounds j true).getD b true=false:=by rw [getD_set_ne true hjb];exact hlb
   refine wpOp_mono (fun a' w' h3=>?_) h2
   have hC:C w':=h3.2.1 (by rw [getD_set_ne true hjb,getD_set_ne true hib];exact hlb)
   refine ⟨fun _=>hC,ih (listed.setIfInBounds j true) a' w' hfree' (hcl.step hj) (ready_mono hr (Ne.symm hji)) h3.1 hC hb1 ?_⟩
   rw [Array.setIfInBounds_comm _ _ hji]
   exact h3.2.2
theorem wpAnyT_take (n i:Nat) {oi:Oper} {v:Value} {fuel:Nat} {listed:Array Bool} {a:Act} {w:World} (hi:ops[i]?=some oi)
  (hs:Region.noSelect ops=true) (hf:Region.free md ops listed i=true) (hr:(Region.ready md ops listed).contains i=true) (hwt:waitsT md ops i n b=true) (hcl:closedB md ops listed=true) (hlb:listed.getD b true=false) (hib:i≠b)
  (hQ:∀ c a w,Q (.panic c) (a.put oi.dst v) w→Q (.panic c) a w) (hy:YieldsIf P ops C oi v a) (hC:C w)
  (h:wpAnyB P md ops Q b C fuel (listed.setIfInBounds i true) (a.put oi.dst v) w):wpAnyB P md ops Q b C (fuel+1) listed a w:=
 wpAnyT_first hi (Region.noSelect_spec hs) hQ hib hwt fuel listed a w (Region.free_spec hi hf) (closedB_spec hcl) (by simpa using hr) hy hC hlb h
end
end Go.Mh
namespace Go.Mh
open Go
section
variable {P:Program} {ops:Array Oper} {Q:Exit→Act→World→Prop} {md:Region.Mode} {S:World→Prop}
theorem wpAnyH_step (i:Nat) {oi:Oper} {fuel:Nat} {listed:Array Bool} {a:Act} {w:World} (hi:ops[i]?=some oi) (hr:Region.ready md ops listed=[i])
  (h:∀ K':Act→World→Prop,Shut (∀ a w,S w→wpAnyH P md ops Q S fuel (listed.setIfInBounds i true) a w→K' a w)→if Region.wanted oi (yielded ops a.tmps)=true then Oper.wp P oi a w K' Q else K' (a.put oi.dst undef) w) :
  wpAnyH P md ops Q S (fuel+1) listed a w:=
 ⟨fun h0=>by (rw [hr] at h0;cases h0),fun j hj=>by
  rw [hr] at hj
  obtain rfl:j=i:=by simpa using hj
  exact wpOp_step hi fun K' hK=>h K' fun a w hC hW=>hK a w ⟨hC,hW⟩⟩
theorem wpAnyH_takeD (i d:Nat) {oi:Oper} {v:Value} {fuel:Nat} {listed:Array Bool} {l:List Value} {df:List _} {w:World} (hi:ops[i]?=some oi) (hd:oi.dst=some d)
  (hs:Region.noSelect ops=true) (hf:Region.free md ops listed i=true) (hr:(Region.ready md ops listed).contains i=true)
  (hQ:∀ c a w,Q (.panic c) (a.put oi.dst v) w→Q (.panic c) a w) (hy:YieldsIf P ops S oi v ⟨l.toArray,df⟩) (hS:S w)
  (h:wpAnyH P md ops Q S fuel (listed.setIfInBounds i true) ⟨(l.set d v).toArray,df⟩ w):wpAnyH P md ops Q S (fuel+1) listed ⟨l.toArray,df⟩ w:=by
 refine wpAnyH_take hi hs hf hr hQ hy hS ?_
 rw [hd]
 simpa [Act.put] using h
theorem tD (i d:Nat) {oi:Oper} {v:Value} {fuel:Nat} {listed:Array Bool} {l:List Value} {df:List _} {w:World} (hS:S w) (hy:∀ w,S w→(execOp (⟨l.toArray,df⟩:Act).eval oi).run P w=.ok (.value v) w)
  (h:wpAnyH P md ops Q S fuel (listed.setIfInBounds i true) ⟨(l.set d v).toArray,df⟩ w) (hi:ops[i]?=some oi:=by rfl) (hd:oi.dst=some d:=by rfl) (hw:Region.wanted oi (yielded ops l.toArray)=true:=by rfl)
  (hs:Region.noSelect ops=true:=by kernel_rfl) (hf:Region.free md ops listed i=true:=by kernel_rfl) (hr:(Region.ready md ops listed).contains i=true:=by kernel_rfl)
  (hQ:∀ c a w,Q (.panic c) (a.put oi.dst v) w→Q (.panic c) a w:=by exact fun _ _ _ h=>h):wpAnyH P md ops Q S (fuel+1) listed ⟨l.toArray,df⟩ w:=wpAnyH_takeD i d hi hd hs hf hr hQ (Or.inl ⟨hw,hy⟩) hS h
end
end Go.Mh
namespace Go.Mh
open Go
section
variable {P:Program} {ops:Array Oper} {Q:Exit→Act→World→Prop} {md:Region.Mode} {S:World→Prop}
end
end Go.Mh
namespace Go.Mh
open Go
section
variable {P:Program} {ops:Array Oper} {Q:Exit→Act→World→Prop} {md:Region.Mode} {b:Nat} {C S:World→Prop}
def wpAnyG (P:Program) (md:Region.Mode) (ops:Array Oper) (Q:Exit→Act→World→Prop) (b:Nat) (C S:World→Prop):Nat→Array Bool→Act→World→Prop
 | 0,listed,a,w=>Region.ready md ops listed=[]∧Q .normal a w
 | fuel+1,listed,a,w =>
  (Region.ready md ops listed=[]→Q .normal a w) ∧
  ∀ i ∈ Region.ready md ops listed,wpOp P ops Q i (fun a' w'=>S w'∧((listed.setIfInBounds i true).getD b true=false→C w')∧wpAnyG P md ops Q b C S fuel (listed.setIfInBounds i true) a' w') a w
theorem wpAny_of_G:∀ (fuel:Nat) (listed:Array Bool) (a:Act) (w:World),wpAnyG P md ops Q b C S fuel listed a w→wpAny P md ops Q fuel listed a w
 | 0,_,_,_,h=>h
 | fuel+1,_,_,_,h=>⟨h.1,fun i hi=>wpOp_mono (fun a' w' h'=>wpAny_of_G fuel _ a' w' h'.2.2) (h.2 i hi)⟩
theorem wpAnyG_firstC {n i:Nat} {oi:Oper} {v:Value} (hi:ops[i]?=some oi) (hsel:∀ (j:Nat) (o:Oper) cs b,ops[j]?=some o→o.op≠.select cs b)
  (hQ:∀ c a w,Q (.panic c) (a.put oi.dst v) w→Q (.panic c) a w) (hib:i≠b) (hwt:waitsT md ops i n b=true) :
  ∀ (fuel:Nat) (listed:Array Bool) (a:Act) (w:World),
   (∀ j oj,ops[j]?=some oj→j≠i→listed.getD j true=false→(∀ e ∈ oj.after,Region.binds md e=true→e.on≠i)→oi.apart ops oj=true) →
   ClosedT md ops listed→i ∈ Region.ready md ops listed→YieldsIf P ops (fun w=>S w∧C w) oi v a→S w→C w→listed.getD b true=false →
   wpAnyG P md ops Q b C S fuel (listed.setIfInBounds i true) (a.put oi.dst v) w→wpAnyG P md ops Q b C S (fuel+1) listed a w:=by
 intro fuel
 induction fuel with
 | zero =>
  intro listed a w _ _ hr hy hS hC hlb H
  refine ⟨fun h=>(by rw [h] at hr;cases hr),fun j hj=>?_⟩
  by_cases hji:j=i
  ·subst hji;exact hy.wpOp hi ⟨hS,hC⟩ ⟨hS,fun _=>hC,H⟩
  ·have:=ready_mono hj hji
   rw [H.1] at this
   cases this
 | succ fuel ih =>
  intro listed a w hfree hcl hr hy hS hC hlb H
  refine ⟨fun h=>(by rw [h] at hr;cases hr),fun j hj=>?_⟩
  by_cases hji:j=i
  ·subst hji;exact hy.wpOp hi ⟨hS,hC⟩ ⟨hS,fun _=>hC,H⟩
  ·have hjb:j≠b:=fun h=>not_ready_of_waitsT hcl hwt (mem_ready.1 hr).1 (h ▸ hj)
   have h1:=H.2 j (ready_mono hj hji)
   obtain ⟨hjun,oj,hoj,hall⟩:=mem_ready.1 hj
   have hnot:∀ e ∈ oj.after,Region.binds md e=true→e.on≠i:=fun e he hb heq=>by
    have h1:=hall e he hb
    have h0:=(mem_ready.1 hr).1
    rw [heq] at h1
    rcases Nat.lt_or_ge i listed.size with h' | h'
    ·simp [h'] at h0 h1;rw [h0] at h1;cases h1
    ·simp [Array.getElem?_eq_none h'] at h1
   have h2:=wpOp_putIf hoj (hfree j oj hoj hji hjun hnot) (fun cs b=>hsel i oi cs b hi) (fun cs b=>hsel j oj cs b hoj) hQ hy h1
   have hfree':∀ k ok,ops[k]?=some ok→k≠i→(listed.setIfInBounds j true).getD k true=false →
     (∀ e ∈ ok.after,Region.binds md e=true→e.on≠i)→oi.apart ops ok=true:=fun k ok hk hki hun hno=>by
    refine hfree k ok hk hki ?_ hno
    by_cases hjk:j=k
    ·subst hjk;exact hjun
    ·rw [getD_set_ne true hjk] at hun;exact hun
   have hb1:(listed.setIfInBounds j true).getD b true=false:=by rw [getD_set_ne true hjb];exact hlb
   refine wpOp_mono (fun a' w' h3=>?_) h2
   have hC:C w':=h3.2.2.1 (by rw [getD_set_ne true hjb,getD_set_ne true hib];exact hlb)
   refine ⟨h3.2.1,fun _=>hC,ih (listed.setIfInBounds j true) a' w' hfree' (hcl.step hj) (ready_mono hr (Ne.symm hji)) h3.1 h3.2.1 hC hb1 ?_⟩
   rw [Array.setIfInBounds_comm _ _ hji]
   exact h3.2.2.2
theorem wpAnyG_firstS {i:Nat} {oi:Oper} {v:Value} (hi:ops[i]?=some oi) (hsel:∀ (j:Nat) (o:Oper) cs b,ops[j]?=some o→o.op≠.select cs b)
  (hQ:∀ c a w,Q (.panic c) (a.put oi.dst v) w→Q (.panic c) a w) (hib:i≠b) :
  ∀ (fuel:Nat) (listed:Array Bool) (a:Act) (w:World),
   (∀ j oj,ops[j]?=some oj→j≠i→listed.getD j true=false→(∀ e ∈ oj.after,Region.binds md e=true→e.on≠i)→oi.apart ops oj=true) →
   i ∈ Region.ready md ops listed→YieldsIf P ops S oi v a→S w→(listed.getD b true=false→C w) →
   wpAnyG P md ops Q b C S fuel (listed.setIfInBounds i true) (a.put oi.dst v) w→wpAnyG P md ops Q b C S (fuel+1) listed a w:=by
 intro fuel
 induction fuel with
 | zero =>
  intro listed a w _ hr hy hS hC H
  refine ⟨fun h=>(by rw [h] at hr;cases hr),fun j hj=>?_⟩
  by_cases hji:j=i
  ·subst hji;exact hy.wpOp hi hS ⟨hS,fun h=>hC (by rw [getD_set_ne true hib] at h;exact h),H⟩
  ·have:=ready_mono hj hji
   rw [H.1] at this
   cases this
 | succ fuel ih =>
  intro listed a w hfree hr hy hS hC H
  refine ⟨fun h=>(by rw [h] at hr;cases hr),fun j hj=>?_⟩
  by_cases hji:j=i
  ·subst hji;exact hy.wpOp hi hS ⟨hS,fun h=>hC (by rw [getD_set_ne true hib] at h;exact h),H⟩
  ·have h1:=H.2 j (ready_mono hj hji)
   obtain ⟨hjun,oj,hoj,hall⟩:=mem_ready.1 hj
   have hnot:∀ e ∈ oj.after,Region.binds md e=true→e.on≠i:=fun e he hb heq=>by
    have h1:=hall e he hb
    have h0:=(mem_ready.1 hr).1
    rw [heq] at h1
    rcases Nat.lt_or_ge i listed.size with h' | h'
    ·simp [h'] at h0 h1;rw [h0] at h1;cases h1
    ·simp [Array.getElem?_eq_none h'] at h1
   have h2:=wpOp_putIf hoj (hfree j oj hoj hji hjun hnot) (fun cs b=>hsel i oi cs b hi) (fun cs b=>hsel j oj cs b hoj) hQ hy h1
   have hfree':∀ k ok,ops[k]?=some ok→k≠i→(listed.setIfInBounds j true).getD k true=false →
     (∀ e ∈ ok.after,Region.binds md e=true→e.on≠i)→oi.apart ops ok=true:=fun k ok hk hki hun hno=>by
    refine hfree k ok hk hki ?_ hno
    by_cases hjk:j=k
    ·subst hjk;exact hjun
    ·rw [getD_set_ne true hjk] at hun;exact hun
   refine wpOp_mono (fun a' w' h3=>?_) h2
   have hC':(listed.setIfInBounds j true).getD b true=false→C w':=fun h=>h3.2.2.1 (by rw [Array.setIfInBounds_comm _ _ (Ne.symm hji),getD_set_ne true hib];exact h)
   refine ⟨h3.2.1,hC',ih (listed.setIfInBounds j true) a' w' hfree' (ready_mono hr (Ne.symm hji)) h3.1 h3.2.1 hC' ?_⟩
   rw [Array.setIfInBounds_comm _ _ hji]
   exact h3.2.2.2
theorem wpAnyG_takeC (n i d:Nat) {oi:Oper} {v:Value} {fuel:Nat} {listed:Array Bool} {l:List Value} {df:List _} {w:World} (hi:ops[i]?=some oi) (hd:oi.dst=some d)
  (hs:Region.noSelect ops=true) (hf:Region.free md ops listed i=true) (hr:(Region.ready md ops listed).contains i=true) (hwt:waitsT md ops i n b=true) (hcl:closedB md ops listed=true) (hlb:listed.getD b true=false) (hib:i≠b)
  (hQ:∀ c a w,Q (.panic c) (a.put oi.dst v) w→Q (.panic c) a w) (hy:YieldsIf P ops (fun w=>S w∧C w) oi v ⟨l.toArray,df⟩) (hS:S w) (hC:C w)
  (h:wpAnyG P md ops Q b C S fuel (listed.setIfInBounds i true) ⟨(l.set d v).toArray,df⟩ w):wpAnyG P md ops Q b C S (fuel+1) listed ⟨l.toArray,df⟩ w:=by
 refine wpAnyG_firstC hi (Region.noSelect_spec hs) hQ hib hwt fuel listed _ w (Region.free_spec hi hf) (closedB_spec hcl) (by simpa using hr) hy hS hC hlb ?_
 rw [hd]
 simpa [Act.put] using h
theorem tG (n i d:Nat) {oi:Oper} {v:Value} {fuel:Nat} {listed:Array Bool} {l:List Value} {df:List _} {w:World} (hS:S w) (hC:C w) (hy:∀ w,S w∧C w→(execOp (⟨l.toArray,df⟩:Act).eval oi).run P w=.ok (.value v) w)
  (h:wpAnyG P md ops Q b C S fuel (listed.setIfInBounds i true) ⟨(l.set d v).toArray,df⟩ w) (hi:ops[i]?=some oi:=by rfl) (hd:oi.dst=some d:=by rfl) (hw:Region.wanted oi (yielded ops l.toArray)=true:=by rfl)
  (hs:Region.noSelect ops=true:=by kernel_rfl) (hf:Region.free md ops listed i=true:=by kernel_rfl) (hr:(Region.ready md ops listed).contains i=true:=by kernel_rfl) (hwt:waitsT md ops i n b=true:=by kernel_rfl)
  (hcl:closedB md ops listed=true:=by kernel_rfl) (hlb:listed.getD b true=false:=by kernel_rfl) (hib:i≠b:=by decide)
  (hQ:∀ c a w,Q (.panic c) (a.put oi.dst v) w→Q (.panic c) a w:=by exact fun _ _ _ h=>h):wpAnyG P md ops Q b C S (fuel+1) listed ⟨l.toArray,df⟩ w:=wpAnyG_takeC n i d hi hd hs hf hr hwt hcl hlb hib hQ (Or.inl ⟨hw,hy⟩) hS hC h
theorem wpAnyG_takeS (i d:Nat) {oi:Oper} {v:Value} {fuel:Nat} {listed:Array Bool} {l:List Value} {df:List _} {w:World} (hi:ops[i]?=some oi) (hd:oi.dst=some d)
  (hs:Region.noSelect ops=true) (hf:Region.free md ops listed i=true) (hr:(Region.ready md ops listed).contains i=true) (hib:i≠b)
  (hQ:∀ c a w,Q (.panic c) (a.put oi.dst v) w→Q (.panic c) a w) (hy:YieldsIf P ops S oi v ⟨l.toArray,df⟩) (hS:S w) (hC:listed.getD b true=false→C w)
  (h:wpAnyG P md ops Q b C S fuel (listed.setIfInBounds i true) ⟨(l.set d v).toArray,df⟩ w):wpAnyG P md ops Q b C S (fuel+1) listed ⟨l.toArray,df⟩ w:=by
 refine wpAnyG_firstS hi (Region.noSelect_spec hs) hQ hib fuel listed _ w (Region.free_spec hi hf) (by simpa using hr) hy hS hC ?_
 rw [hd]
 simpa [Act.put] using h
theorem wpAnyG_step (i:Nat) {oi:Oper} {fuel:Nat} {listed:Array Bool} {a:Act} {w:World} (hi:ops[i]?=some oi) (hr:Region.ready md ops listed=[i])
  (h:∀ K':Act→World→Prop,Shut (∀ a w,S w→((listed.setIfInBounds i true).getD b true=false→C w)→wpAnyG P md ops Q b C S fuel (listed.setIfInBounds i true) a w→K' a w)→if Region.wanted oi (yielded ops a.tmps)=true then Oper.wp P oi a w K' Q else K' (a.put oi.dst undef) w) :
  wpAnyG P md ops Q b C S (fuel+1) listed a w:=
 ⟨fun h0=>by (rw [hr] at h0;cases h0),fun j hj=>by
  rw [hr] at hj
  obtain rfl:j=i:=by simpa using hj
  exact wpOp_step hi fun K' hK=>h K' fun a w hS hC hW=>hK a w ⟨hS,hC,hW⟩⟩
theorem wpAnyG_done {listed:Array Bool} {a:Act} {w:World} (hr:Region.ready md ops listed=[]) (h:Q .normal a w):∀ fuel,wpAnyG P md ops Q b C S fuel listed a w
 | 0=>⟨hr,h⟩
 | _+1=>⟨fun _=>h,by rw [hr];simp⟩
theorem wp_region_G (b:Nat) (C S:World→Prop) {id:Nat} {a:Act} {w:World} (hm:P.follows .mixedOrders=true)
  (h:wpAnyG P .any ops Q b C S ops.size (Array.replicate ops.size false) a w.drew):(Code.region id ops true).wp P Q a w:=
 wp_region_any hm (wpAny_of_G _ _ _ _ h)
end
end Go.Mh
namespace Go.Mh
open Go
section
variable {P:Program} {ops:Array Oper} {Q:Exit→Act→World→Prop} {md:Region.Mode} {S:World→Prop}
theorem wpAnyH_meet (i j:Nat) {oi oj:Oper} {fuel:Nat} {listed:Array Bool} {a:Act} {w:World} (hi:ops[i]?=some oi) (hj:ops[j]?=some oj) (hr:Region.ready md ops listed=[i,j])
  (I:Value→Nat→World→Prop)
  (h:∃ Goal:Value→Nat→World→Prop,((∀ v G w',I v G w'→S w'→Goal v G w')→∀ K':Act→World→Prop,Shut (∀ a' w',S w'→wpAnyH P md ops Q S fuel (listed.setIfInBounds i true) a' w'→K' a' w')→if Region.wanted oi (yielded ops a.tmps)=true then Oper.wp P oi a w K' Q else K' (a.put oi.dst undef) w) ∧
   ((∀ v G w',I v G w'→S w'→Goal v G w')→∀ K':Act→World→Prop,Shut (∀ a' w',S w'→wpAnyH P md ops Q S fuel (listed.setIfInBounds j true) a' w'→K' a' w')→if Region.wanted oj (yielded ops a.tmps)=true then Oper.wp P oj a w K' Q else K' (a.put oj.dst undef) w) ∧
   ∀ v G w',I v G w'→S w'→Goal v G w'):wpAnyH P md ops Q S (fuel+1) listed a w:=by
 obtain ⟨Goal,h1,h2,rest⟩:=h
 refine ⟨fun h0=>by (rw [hr] at h0;cases h0),fun k hk=>?_⟩
 rw [hr] at hk
 rcases (by simpa using hk:k=i∨k=j) with rfl | rfl
 ·exact wpOp_step hi fun K' hK=>h1 rest K' fun a' w' hS h=>hK a' w' ⟨hS,h⟩
 ·exact wpOp_step hj fun K' hK=>h2 rest K' fun a' w' hS h=>hK a' w' ⟨hS,h⟩
theorem wpAnyH_listed {fuel:Nat} {x y:Array Bool} {a:Act} {w:World} (e:x=y) (h:wpAnyH P md ops Q S fuel x a w):wpAnyH P md ops Q S fuel y a w:=e ▸ h
end
end Go.Mh
