import Derived.Test.YteikncnldbdfmaaGreatDoorMWdB
namespace Go.Mh
open Go.RowKit
def RVal1 (_:World) (cs:List Value) (v:Value):Prop:=cs=[v]∧v.oneCell'=true
end Go.Mh
namespace Go.Proofs.YteikncnldbdfmaaGreatDoor
open Go.RowKit Go.Mh
theorem elQ:El Tryz.prog 28 65 1 24 (.slice none 0 0):=⟨Tryz.underlying28,by kernel_rfl,rfl,by decide⟩
theorem elCl:El Tryz.prog 27 52 7 120 (.agg #[.int .i64 0,.slice none 0 0,.slice none 0 0,.int .i64 0,.slice none 0 0,.slice none 0 0,.bool false]):=⟨Tryz.underlying27,by kernel_rfl,rfl,by decide⟩
set_option maxRecDepth 100000 in
set_option maxHeartbeats 400000 in
theorem cloneMsgs_any (F G:Nat→Prop) (v:Value) (L:List Msg) (w:World) (h:RdS 4 (RMsg F) G w v L) (hl:L.length≤100000) :
  Calls Tryz.prog 90 #[v] w fun e w'=>∃ u,e=.returned u∧OwnS w.heap.size 79 4 (RMsg fun k=>F k∧k < w.heap.size) w' u L∧Below w.heap.size w w':=by
 obtain ⟨a,cap,rfl,hn⟩:=RdS.len h
 have H:=Lib.hid h;clear h
 have hnil:=fun (w:World)=>Lib.run_eql_slice_nil (P:=Tryz.prog) w 65 79 a L.length cap 0 0 Tryz.underlying65
 cases a with
 | none =>
  simp only [Option.isNone_none] at hnil
  obtain ⟨rfl,rfl⟩:L=[]∧cap=0:=RdS.none_nil H.out
  clear hn hl
  simp only [List.length_nil] at hnil
  go_enter Tryz.func90,Tryz.ntmps90
  go_wp2
  go_ret
  exact ⟨_,rfl,OwnS.nil,brf _⟩
 | some ad =>
  simp only [Option.isNone_some] at hnil
  have hB:Below w.heap.size w (w.alloc (.cells #[] 79)):=bal (brf w) _
  have hF:Kp F (fun k=>F k∧k < w.heap.size) w (w.alloc (.cells #[] 79)):=fun k hF hk=>⟨⟨hF,hk⟩,(bal (brf w) _).block k hk⟩
  have hS:RdS 4 (RMsg fun k=>F k∧k < w.heap.size) (fun _=>True) (w.alloc (.cells #[] 79)) (.slice (some ad) L.length cap) L:=RdS.to H.out (by decide) (fun k _ hk=>⟨trivial,hB.block k hk⟩) (fun cs x _ r=>RMsg.to r hF)
  go_enter Tryz.func90,Tryz.ntmps90
  go_wp2_with (at_builtin;refine wpList_app rfl (.tmp 5) (.tmp 6) 65 rfl w.heap.size 79 4 48 _ elMsg (RMsg fun k=>F k∧k < w.heap.size) (.slice (some ⟨w.heap.size,0,none⟩) 0 0) [] L rfl (OwnS.empty (Nat.le_refl _) (heap_new _ _)) _ (.slice (some ad) L.length cap) rfl hS (RMsg_one _) (by simp [maxLen];omega) (by simp;omega) (by simp) (fun w' hg cs x _ r=>RMsg.to r fun k hF hk=>⟨hF,hg.block k hk (by simp [Value.ownBlock];omega)⟩) ?_;intro v2 w2 ho2 hb2 hB2)
  go_ret
  exact ⟨_,rfl,ho2,(bal (brf w) _).trans hB2⟩
set_option maxRecDepth 100000 in
set_option maxHeartbeats 400000 in
theorem cloneQs_any (F G:Nat→Prop) (v:Value) (L:List Value) (w:World) (h:RdS 1 RVal1 G w v L) (hl:L.length≤100000) :
  Calls Tryz.prog 89 #[v] w fun e w'=>∃ u,e=.returned u∧OwnS w.heap.size 65 1 RVal1 w' u L∧Below w.heap.size w w':=by
 obtain ⟨a,cap,rfl,hn⟩:=RdS.len h
 have H:=Lib.hid h;clear h
 have hnil:=fun (w:World)=>Lib.run_eql_slice_nil (P:=Tryz.prog) w 28 65 a L.length cap 0 0 Tryz.underlying28
 cases a with
 | none =>
  simp only [Option.isNone_none] at hnil
  obtain ⟨rfl,rfl⟩:L=[]∧cap=0:=RdS.none_nil H.out
  clear hn hl
  simp only [List.length_nil] at hnil
  go_enter Tryz.func89,Tryz.ntmps89
  go_wp2
  go_ret
  exact ⟨_,rfl,OwnS.nil,brf _⟩
 | some ad =>
  simp only [Option.isNone_some] at hnil
  have hB:Below w.heap.size w (w.alloc (.cells #[] 65)):=bal (brf w) _
  have hF:Kp F (fun k=>F k∧k < w.heap.size) w (w.alloc (.cells #[] 65)):=fun k hF hk=>⟨⟨hF,hk⟩,(bal (brf w) _).block k hk⟩
  have hS:RdS 1 RVal1 (fun _=>True) (w.alloc (.cells #[] 65)) (.slice (some ad) L.length cap) L:=RdS.to H.out (by decide) (fun k _ hk=>⟨trivial,hB.block k hk⟩) (fun cs x _ r=>r)
  go_enter Tryz.func89,Tryz.ntmps89
  go_wp2_with (at_builtin;refine wpList_app rfl (.tmp 5) (.tmp 6) 28 rfl w.heap.size 65 1 24 _ elQ RVal1 (.slice (some ⟨w.heap.size,0,none⟩) 0 0) [] L rfl (OwnS.empty (Nat.le_refl _) (heap_new _ _)) _ (.slice (some ad) L.length cap) rfl hS (fun _ _ _ r=>by obtain ⟨rfl,h1⟩:=r;intro u hu;simp at hu;subst hu;exact h1) (by simp [maxLen];omega) (by simp;omega) (by simp) (fun _ _ _ _ _ r=>r) ?_;intro v2 w2 ho2 hb2 hB2)
  go_ret
  exact ⟨_,rfl,ho2,(bal (brf w) _).trans hB2⟩
set_option maxRecDepth 100000 in
set_option maxHeartbeats 400000 in
theorem cloneCls_any (F G:Nat→Prop) (v:Value) (L:List Cl) (w:World) (h:RdS 7 (RClc F) G w v L) (hl:L.length≤100000) :
  Calls Tryz.prog 93 #[v] w fun e w'=>∃ u,e=.returned u∧OwnS w.heap.size 52 7 (RClc fun k=>F k∧k < w.heap.size) w' u L∧Below w.heap.size w w':=by
 obtain ⟨a,cap,rfl,hn⟩:=RdS.len h
 have H:=Lib.hid h;clear h
 have hnil:=fun (w:World)=>Lib.run_eql_slice_nil (P:=Tryz.prog) w 27 52 a L.length cap 0 0 Tryz.underlying27
 cases a with
 | none =>
  simp only [Option.isNone_none] at hnil
  obtain ⟨rfl,rfl⟩:L=[]∧cap=0:=RdS.none_nil H.out
  clear hn hl
  simp only [List.length_nil] at hnil
  go_enter Tryz.func93,Tryz.ntmps93
  go_wp2
  go_ret
  exact ⟨_,rfl,OwnS.nil,brf _⟩
 | some ad =>
  simp only [Option.isNone_some] at hnil
  have hB:Below w.heap.size w (w.alloc (.cells #[] 52)):=bal (brf w) _
  have hF:Kp F (fun k=>F k∧k < w.heap.size) w (w.alloc (.cells #[] 52)):=fun k hF hk=>⟨⟨hF,hk⟩,(bal (brf w) _).block k hk⟩
  have hS:RdS 7 (RClc fun k=>F k∧k < w.heap.size) (fun _=>True) (w.alloc (.cells #[] 52)) (.slice (some ad) L.length cap) L:=RdS.to H.out (by decide) (fun k _ hk=>⟨trivial,hB.block k hk⟩) (fun cs x _ r=>RClc.to r hF)
  go_enter Tryz.func93,Tryz.ntmps93
  go_wp2_with (at_builtin;refine wpList_app rfl (.tmp 5) (.tmp 6) 27 rfl w.heap.size 52 7 120 _ elCl (RClc fun k=>F k∧k < w.heap.size) (.slice (some ⟨w.heap.size,0,none⟩) 0 0) [] L rfl (OwnS.empty (Nat.le_refl _) (heap_new _ _)) _ (.slice (some ad) L.length cap) rfl hS (fun _ _ _ r=>RClc_one _ r) (by simp [maxLen];omega) (by simp;omega) (by simp) (fun w' hg cs x _ r=>RClc.to r fun k hF hk=>⟨hF,hg.block k hk (by simp [Value.ownBlock];omega)⟩) ?_;intro v2 w2 ho2 hb2 hB2)
  go_ret
  exact ⟨_,rfl,ho2,(bal (brf w) _).trans hB2⟩
end Go.Proofs.YteikncnldbdfmaaGreatDoor
