import Derived.Test.YteikncnldbdfmaaGreatDoorMMem
import Derived.ProofKit
import Derived.Deep.Slices
import Derived.HandedShaped
import Derived.Shelf.Strings.Shaped
import Derived.ChangeArms
import Derived.Lay
import Derived.LaidOnce
import Derived.SevenTiedAt
import Derived.MakeChecks
import Derived.Lib.LaidU8
namespace Go.Proofs.YteikncnldbdfmaaGreatDoor
open Go.RowKit Go.Mh Go.Deep
section
variable {H:Type} {enc:TypeId × Value→H} {w:World} {held:Bool} {spare:Nat→Bool}
theorem field_at {fs:Array Field} {l:List (String × Nat × Nat)} (h:fs.toList.map (fun f=>(f.name,f.type,f.offset))=l) {i:Nat} {x:String × Nat × Nat} (hx:l[i]?=some x) :
  ∃ f,fs[i]?=some f∧f.type=x.2.1∧f.offset=x.2.2:=by
 subst h
 rw [List.getElem?_map] at hx
 obtain ⟨f,hf,rfl⟩:=Option.map_eq_some_iff.1 hx
 exact ⟨f,by simpa using hf,rfl,rfl⟩
theorem trod_field {t:TypeId} {fuel:Nat} {cs:List Value} {x:DataW H × List MemPlace} {l:List (String × Nat × Nat)} (ht:Tryz.prog.underlying t=some (.struct (Tryz.prog.fieldsOf t))) (hl:(Tryz.prog.fieldsOf t).toList.map (fun f=>(f.name,f.type,f.offset))=l)
  (h:DataW.trod enc Tryz.prog w 0 spare held fuel t cs=some x) (i:Nat) (y:String × Nat × Nat) (hy:l[i]?=some y) :
  ∃ n z,DataW.trod enc Tryz.prog w 0 spare held n y.2.1 ((cs.drop y.2.2).take (Tryz.prog.cellsOf y.2.1))=some z:=by
 obtain ⟨xs,n,_,_,_,hlen,hf⟩:=DataW.trod_struct ht h
 obtain ⟨f,hff,h1,h2⟩:=field_at hl hy
 have hi:i < xs.length:=by
  rw [hlen]
  exact (Array.getElem?_eq_some_iff.1 hff).1
 refine ⟨n,xs[i], ?_⟩
 rw [← h1,← h2,hf i f hff]
 exact List.getElem?_eq_getElem hi
theorem trod_len {t:TypeId} {fuel:Nat} {cs:List Value} {x:DataW H × List MemPlace} (ht:Tryz.prog.underlying t=some (.struct (Tryz.prog.fieldsOf t))) (h:DataW.trod enc Tryz.prog w 0 spare held fuel t cs=some x):cs.length=Tryz.prog.cellsOf t:=by
 obtain ⟨xs,n,_,_,hl,_,_⟩:=DataW.trod_struct ht h
 exact hl
theorem cells_u8:Tryz.prog.cellsOf 5=1:=by kernel_rfl
theorem cells_int:Tryz.prog.cellsOf 3=1:=by kernel_rfl
theorem cells_string:Tryz.prog.cellsOf 9=1:=by kernel_rfl
theorem cells_bool:Tryz.prog.cellsOf 4=1:=by kernel_rfl
theorem cells_Item:Tryz.prog.cellsOf 58=3:=by kernel_rfl
theorem byte_of {n:Int} (h:(Lit.int .u8 n).wf=true):∃ c:UInt8,n=(c.toNat:Int):=by
 have hb:0≤n∧n < 256:=by
  have:=h
  simp [Lit.wf,IntKind.min,IntKind.max,IntKind.signed,IntKind.bits] at this
  constructor <;> omega
 refine ⟨UInt8.ofNat n.toNat, ?_⟩
 simp [UInt8.toNat_ofNat']
 omega
theorem str_of (s:ByteArray):∃ l:Bs,s=⟨l.toArray⟩:=⟨s.data.toList,by cases s;simp⟩
theorem item_of {fuel:Nat} {cs:List Value} {x:DataW H × List MemPlace} (h:DataW.trod enc Tryz.prog w 0 spare held fuel 58 cs=some x):∃ y:It,RIt w cs y:=by
 have hl:=trod_len under_Item h
 rw [cells_Item] at hl
 match cs,hl with
 | [c0,c1,c2],_ =>
  obtain ⟨n0,z0,h0⟩:=trod_field under_Item fields_Item h 0 _ rfl
  obtain ⟨n1,z1,h1⟩:=trod_field under_Item fields_Item h 1 _ rfl
  obtain ⟨n2,z2,h2⟩:=trod_field under_Item fields_Item h 2 _ rfl
  simp only [cells_u8,cells_int,cells_string] at h0 h1 h2
  obtain ⟨a,e0,_,wa⟩:=DataW.trod_int Tryz.underlying5 h0
  obtain ⟨b,e1,_,_⟩:=DataW.trod_int Tryz.underlying3 h1
  obtain ⟨s,e2,_,_⟩:=DataW.trod_string Tryz.underlying9 h2
  simp at e0 e1 e2
  subst e0 e1 e2
  obtain ⟨c,rfl⟩:=byte_of wa
  obtain ⟨l,rfl⟩:=str_of s
  exact ⟨⟨c,b,l⟩,rfl⟩
theorem RdS.ofTrod {α:Type} [Inhabited α] {sz:Nat} {R:World→List Value→α→Prop} {t e:TypeId} {fuel len cap:Nat} {a:Option Addr} {x:DataW H × List MemPlace} (ht:Tryz.prog.underlying t=some (.slice e)) (hsz:Tryz.prog.cellsOf e=sz) (hpos:0 < sz)
  (hel:∀ (n:Nat) (cs:List Value) (y:DataW H × List MemPlace),DataW.trod enc Tryz.prog w 0 (fun _=>true) held n e cs=some y→∃ z,R w cs z)
  (h:DataW.trod enc Tryz.prog w 0 (fun _=>true) held fuel t [.slice a len cap]=some x):∃ L:List α,RdS sz R (fun _=>True) w (.slice a len cap) L:=by
 rcases open_slice ht h with ⟨hcs,_⟩ | ⟨ad,len',cap',m,n,D,Pl,hcs,_,hl,hm,hmm,_,hx⟩
 ·simp at hcs
  obtain ⟨rfl,rfl,rfl⟩:=hcs
  exact ⟨[],RdS.nil⟩
 ·simp at hcs
  obtain ⟨rfl,rfl,rfl⟩:=hcs
  simp at hmm
  subst hmm
  obtain ⟨f,hf⟩:=choose_lt (α:=α) (n:=len) (p:=fun i z=>∃ b o cs,ad=⟨b,o,none⟩∧cs.length=sz∧At w b (o+i * sz) cs∧R w cs z) (fun i hi=>by
   obtain ⟨cs,h1,h2⟩:=hx i (by omega)
   obtain ⟨z,hz⟩:=hel _ _ _ h2
   rw [hsz] at h1
   obtain ⟨_,hlen,hcell⟩:=World.cells?_some h1
   have hsp:ad=⟨ad.block,ad.off,none⟩:=by
    obtain ⟨cs0,h10,_⟩:=hx 0 (by omega)
    rw [hsz] at h10
    obtain ⟨_,hlen0,hcell0⟩:=World.cells?_some h10
    have h0:=hcell0 0 hpos
    rw [List.getElem?_eq_getElem (by omega)] at h0
    have:=World.cell?_spot h0
    simp [Addr.add] at this
    obtain ⟨b,o,s⟩:=ad
    simp at this
    subst this
    rfl
   refine ⟨z,ad.block,ad.off,cs,hsp,hlen,fun j v hj=>?_,hz⟩
   have hj':=(List.getElem?_eq_some_iff.1 hj).1
   have:=hcell j (by omega)
   rw [hj,hsp,Addr.add_lit,Addr.add_lit] at this
   exact this)
  refine ⟨(List.range len).map f,some ad,_,by simp,by simpa using hl,hm,fun h=>by simp at h,fun i z hz=>?_⟩
  rw [List.getElem?_map] at hz
  obtain ⟨i',hi',rfl⟩:=Option.map_eq_some_iff.1 hz
  obtain ⟨hlt,rfl⟩:i < len∧i=i':=by
   have h1:=(List.getElem?_eq_some_iff.1 hi').1
   have h2:=(List.getElem?_eq_some_iff.1 hi').2
   simp at h1 h2
   exact ⟨h1,h2⟩
  obtain ⟨b,o,cs,h1,h2,h3,h4⟩:=hf i hlt
  exact ⟨b,o,cs,by rw [h1],trivial,h2,h3,h4⟩
instance:Inhabited It:=⟨⟨0,0,[]⟩⟩
theorem open_doc {t:TypeId} {fuel len cap:Nat} {a:Option Addr} {x:DataW H × List MemPlace} (ht:Tryz.prog.underlying t=some (.slice 58))
  (h:DataW.trod enc Tryz.prog w 0 (fun _=>true) held fuel t (Value.slice a len cap).cells.toList=some x):∃ L:List It,RItems (fun _=>True) w (.slice a len cap) L:=
 RdS.ofTrod ht cells_Item (by decide) (fun n cs y hy=>item_of hy) h
theorem open_bytes {t:TypeId} {fuel len cap:Nat} {a:Option Addr} {x:DataW H × List MemPlace} (ht:Tryz.prog.underlying t=some (.slice 5))
  (h:DataW.trod enc Tryz.prog w 0 (fun _=>true) held fuel t (Value.slice a len cap).cells.toList=some x):∃ L:Bs,RBytes (fun _=>True) w (.slice a len cap) L:=
 RdS.ofTrod ht cells_u8 (by decide) (fun n cs y hy=>by
  obtain ⟨m,rfl,_,wm⟩:=DataW.trod_int Tryz.underlying5 hy
  obtain ⟨c,rfl⟩:=byte_of wm
  exact ⟨c,rfl⟩) h
end
end Go.Proofs.YteikncnldbdfmaaGreatDoor
namespace Go.Proofs.YteikncnldbdfmaaGreatDoor
open Go.RowKit Go.Mh
theorem lib_num {w:World} (h:w.ShapedOpen Tryz.prog):∃ m,w.cell? ⟨2,0,none⟩=some (.int .i64 m):=
 Go.Proofs.cell_of_shapedOpen_int (zero:=#[.int .i64 0]) (t:=3) h (of_decide_eq_true (by kernel_rfl)) (by kernel_rfl) rfl (by kernel_rfl) (by kernel_rfl) Tryz.underlying3
end Go.Proofs.YteikncnldbdfmaaGreatDoor
namespace Go.Proofs.YteikncnldbdfmaaGreatDoor
open Go.RowKit Go.Mh Go.Deep
section
variable {H:Type} {enc:TypeId × Value→H} {w:World} {held:Bool}
theorem under_Part:Tryz.prog.underlying 93=some (.struct (Tryz.prog.fieldsOf 93)):=by kernel_rfl
theorem fields_Part : (Tryz.prog.fieldsOf 93).toList.map (fun f => (f.name, f.type, f.offset)) = [("Kind", 3, 0), ("N", 3, 1), ("Items", 22, 2), ("Set", 3, 3), ("Clear", 3, 4), ("To", 4, 5), ("Link", 9, 6)] := by kernel_rfl
theorem cells_Part:Tryz.prog.cellsOf 93=7:=by kernel_rfl
theorem cells_Items:Tryz.prog.cellsOf 22=1:=by kernel_rfl
theorem part_of {fuel:Nat} {cs:List Value} {x:DataW H × List MemPlace} (h:DataW.trod enc Tryz.prog w 0 (fun _=>true) held fuel 93 cs=some x):∃ y:Pt,RPt (fun _=>True) w cs y:=by
 have hl:=trod_len under_Part h
 rw [cells_Part] at hl
 match cs,hl with
 | [c0,c1,c2,c3,c4,c5,c6],_ =>
  obtain ⟨n0,z0,h0⟩:=trod_field under_Part fields_Part h 0 _ rfl
  obtain ⟨n1,z1,h1⟩:=trod_field under_Part fields_Part h 1 _ rfl
  obtain ⟨n2,z2,h2⟩:=trod_field under_Part fields_Part h 2 _ rfl
  obtain ⟨n3,z3,h3⟩:=trod_field under_Part fields_Part h 3 _ rfl
  obtain ⟨n4,z4,h4⟩:=trod_field under_Part fields_Part h 4 _ rfl
  obtain ⟨n5,z5,h5⟩:=trod_field under_Part fields_Part h 5 _ rfl
  obtain ⟨n6,z6,h6⟩:=trod_field under_Part fields_Part h 6 _ rfl
  simp only [cells_int,cells_string,cells_bool,cells_Items] at h0 h1 h2 h3 h4 h5 h6
  obtain ⟨a0,e0,_,_⟩:=DataW.trod_int Tryz.underlying3 h0
  obtain ⟨a1,e1,_,_⟩:=DataW.trod_int Tryz.underlying3 h1
  obtain ⟨a3,e3,_,_⟩:=DataW.trod_int Tryz.underlying3 h3
  obtain ⟨a4,e4,_,_⟩:=DataW.trod_int Tryz.underlying3 h4
  obtain ⟨a5,e5,_⟩:=DataW.trod_bool Tryz.underlying4 h5
  obtain ⟨s,e6,_,_⟩:=DataW.trod_string Tryz.underlying9 h6
  simp at e0 e1 e3 e4 e5 e6 h2
  subst e0 e1 e3 e4 e5 e6
  obtain ⟨l,rfl⟩:=str_of s
  have hs:∃ sa sn sc,c2=.slice sa sn sc:=by
   rcases open_slice Tryz.underlying22 h2 with ⟨hcs,_⟩ | ⟨ad,len',cap',m,n,D,Pl,hcs,_⟩
   ·simp at hcs;exact ⟨_,_,_,hcs⟩
   ·simp at hcs;exact ⟨_,_,_,hcs⟩
  obtain ⟨sa,sn,sc,rfl⟩:=hs
  obtain ⟨L,hL⟩:=open_doc Tryz.underlying22 h2
  exact ⟨⟨a0,a1,L,a3,a4,a5,l⟩,_,rfl,hL⟩
instance:Inhabited Pt:=⟨⟨0,0,[],0,0,false,[]⟩⟩
theorem open_op {t:TypeId} {fuel len cap:Nat} {a:Option Addr} {x:DataW H × List MemPlace} (ht:Tryz.prog.underlying t=some (.slice 93))
  (h:DataW.trod enc Tryz.prog w 0 (fun _=>true) held fuel t (Value.slice a len cap).cells.toList=some x):∃ L:List Pt,ROp (fun _=>True) w (.slice a len cap) L:=
 RdS.ofTrod ht cells_Part (by decide) (fun n cs y hy=>part_of hy) h
end
end Go.Proofs.YteikncnldbdfmaaGreatDoor
namespace Go.Proofs.YteikncnldbdfmaaGreatDoor
open Go.ChangeShapes Go.WideShapes Go.ChangeAt Go.RowKit Go.Mh
theorem returns_door {H:Type} {enc:TypeId × Value→H} {a:Assume} {C:Checked} {os:Os} {f:FuncId} {fn:Func} {s:ChangeSpec} {conds:List PathCond} {apart fresh handsOn again:Bool} {l:List (String × DataW Unit)}
  (own:ownKnob C.prog.godebug=none) (started:os.Started) (noInit:C.prog.inits.idxOf? f=none) (hfn:C.prog.funcs[f]?=some fn)
  (witness:∃ (w:World) (tape:Tape) (i:Input),w.os=os∧(w.forCall tape i).Shaped C.prog∧i.vars=[]∧Input.okWide C.prog (w.forCall tape i) .any w.heap.size f i ∧
   ((s.pre enc C.prog fn conds apart (w.forCall tape i).memory i.args∧laidMetH C.prog l (w.forCall tape i).memory)∧sizedMet enc C.prog fn (OpenSpec.ofChange s) apart (w.forCall tape i).memory i.args)∧a.holds C.prog (lone (Frame.enter C.prog f i.args .normal) [] (w.forCall tape i)))
  (contract:∀ (W:World) (base:Nat) (args:Array Value) (ds gs:List (DataW H)) (before:List MemPlace),
   (∀ (j:Nat) t v,fn.params[j]?=some t→args[j]?=some v→Value.okWide C.prog W .any base t v) →
   DataW.Whole enc C.prog fn.params.toList s.vars apart W args.toList ds gs before →
   conds.all (PathCond.test C.prog ⟨fn.params.toList,ds,s.plain.varTypes C.prog,gs⟩)=true →
   (DataW.weightsEach C.prog (fn.params.toList ++ s.plain.varTypes C.prog) (ds ++ gs)).all (·≤reachBytes)=true →
   W.ShapedOpen C.prog→laidMetH C.prog l W →
   Calls C.prog f args W fun e W'=>∃ v,e=.returned v∧s.post enc C.prog fn apart fresh handsOn again W args v W') :
  ReturnsInHanded a C os f .any (fun w args=>(s.pre enc C.prog fn conds apart w args∧laidMetH C.prog l w)∧sizedMet enc C.prog fn (OpenSpec.ofChange s) apart w args) (s.post enc C.prog fn apart fresh handsOn again):=by
 refine returnsInHanded_of_calls own started noInit witness fun w tape i _ hsh _ hok hpre _=>?_
 obtain ⟨_,_,_,fn',hfn',_,_,_,_,hval⟩:=hok
 obtain rfl:fn'=fn:=Option.some.inj (hfn'.symm.trans hfn)
 obtain ⟨⟨⟨ds,gs,before,hw,hc⟩,hx⟩,hz⟩:=hpre
 refine (contract (w.forCall tape i) w.heap.size i.args ds gs before hval (DataW.Whole.of_heap (w':=w.forCall tape i) (by rfl) hw) hc (hz.weights hw) hsh (laidMetH.of_heap (by rfl) hx)).mono fun e W' ⟨v,he,hp⟩=>?_
 subst he
 exact ChangeSpec.post_blind hp
end Go.Proofs.YteikncnldbdfmaaGreatDoor
