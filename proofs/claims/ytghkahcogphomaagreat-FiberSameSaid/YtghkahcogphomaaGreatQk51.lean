/- Fibers: a part of the walk. No condition. -/
import Derived.Test.YtghkahcogphomaaGreatQk50
set_option linter.all false
namespace Go.Proofs.YtghkahcogphomaaGreat
section
open Go.ChangeShapes Go.WideShapes Go.RowKit
variable{w w1 w' wB:World}{Y Y':List Nat}{xb yb:Nat}{c d:Sk}{k k' k2:PK}{rs rs':List Int}{tv tv' tv2:Value}{s t s' t':SV}{full full':Bool}{a:AV}
def AllR(c:Sk)(xb:Nat)(tv:Value):List Nat:=c.all++xb::tv.ownBlock.toList
theorem RunAt.all_in(h:RunAt Y w xb c k rs tv s t full): ∀x,x∈AllR c xb tv→x∈Y:=fun x hx=>by
 rcases List.mem_append.1 hx with hx|hx
 ·exact h.sub x hx
 ·rcases List.mem_cons.1 hx with rfl|hx
  ·exact h.sx
  ·exact h.st x (by simpa using hx)
theorem run_own_all(c:Sk)(xb:Nat)(tv:Value): ∀x,x∈runOwn c xb tv→x∈AllR c xb tv:=fun x hx=>by
 rcases List.mem_append.1 hx with hx|hx
 ·exact List.mem_append_left _ (zm hx)
 ·exact List.mem_append_right _ hx
theorem RunAt.other2{S:List Nat}(h:RunAt Y w xb c k rs tv s t full)(hF:Fr S w w')(hS: ∀x,x∈S→x∈Y∧x∉AllR c xb tv)(hY: ∀y,y∈Y→y∈Y')(hY2: ∀y,y∈Y'→y∈Y∨w.heap.size≤y)(hl: ∀y,y∈Y'→y<w'.heap.size):RunAt Y' w' xb c k rs tv s t full:=by
 have hxb:xb∉S:=fun hc=>(hS _ hc).2 (by simp[AllR])
 refine⟨hF.at h.hx hxb,(h.hk.blocks hY2).other hF (fun y hy=>⟨hY y (hS y hy).1,fun hc=>(hS y hy).2 (List.mem_append_left _ hc)⟩),(h.hm.blocks hY2).fr hF (fun y hy=>hY y (hS y hy).1),h.tk.fr hF (fun y hy hc=>(hS y hc).2 (by simp[AllR,hy])),h.cm,h.xc,h.tc,fun y hy=>hY y (h.sub y hy),hY _ h.sx,fun g hg=>hY g (h.st g hg),hl⟩
def E2(wB:World)(xb yb:Nat)(f g:Bool)(R:PK→PK→Prop)(bb:Nat)(O:Obj)(W:World):Prop:=
 ∃Y c k rs tv s t d k2 rs2 tv2 s2 t2,RunAt Y W xb c k rs tv s t f∧RunAt Y W yb d k2 rs2 tv2 s2 t2 g∧(∀y,y∈AllR c xb tv→y∉AllR d yb tv2)∧(∀y,y∈Y→wB.heap.size≤y)∧Fr [] wB W∧(f=false→g=false→R k k2)∧bb∉Y∧blk W bb=some O
def E20(wB:World)(xb yb:Nat)(W:World):Prop:=
 ∃Y c k rs tv s t d rs2 tv2 s2 t2,RunAt Y W xb c k rs tv s t false∧RunAt Y W yb d k rs2 tv2 s2 t2 false∧(∀y,y∈AllR c xb tv→y∉AllR d yb tv2)∧(∀y,y∈Y→wB.heap.size≤y)∧Fr [] wB W
variable{f g:Bool}{R:PK→PK→Prop}{bb:Nat}{O:Obj}
theorem E20.fr(h:E20 wB xb yb w):Fr [] wB w:=by obtain⟨_,_,_,_,_,_,_,_,_,_,_,_,_,_,_,_,h⟩:=h;exact h
theorem E20.box(h:E20 wB xb yb w)(O:Obj):E2 wB xb yb false false Eq w.heap.size O (w.alloc O):=by
 obtain⟨Y,c,k,rs,tv,s,t,d,rs2,tv2,s2,t2,h1,h2,h3,h4,h5⟩:=h;exact⟨Y,c,k,rs,tv,s,t,d,k,rs2,tv2,s2,t2,h1.keep ((Fr.refl _ _).alloc _),h2.keep ((Fr.refl _ _).alloc _),h3,h4,h5.alloc _,fun _ _=>rfl,fun hc=>by have:=h1.lt _ hc;omega,by rw[zB,if_pos rfl]⟩
theorem E2.fr(h:E2 wB xb yb f g R bb O w):Fr [] wB w:=by obtain⟨_,_,_,_,_,_,_,_,_,_,_,_,_,_,_,_,_,h,_⟩:=h;exact h
theorem E2.ob(h:E2 wB xb yb f g R bb O w):blk w bb=some O:=by obtain⟨_,_,_,_,_,_,_,_,_,_,_,_,_,_,_,_,_,_,_,_,h⟩:=h;exact h
theorem E2.cells(h:E2 wB xb yb f g R bb O w):w.cell? ⟨xb,5,none⟩=some (.bool f)∧w.cell? ⟨yb,5,none⟩=some (.bool g):=by
 obtain⟨Y,c,k,rs,tv,s,t,d,k2,rs2,tv2,s2,t2,h1,h2,_⟩:=h;exact⟨zA h1.hb.out (i:=5) rfl,zA h2.hb.out (i:=5) rfl⟩
theorem step_two{rs2:List Int}{s2 t2:SV}(h1:RunAt Y w xb c k rs tv s t false)(h2:RunAt Y w yb d k2 rs2 tv2 s2 t2 g)(hD: ∀y,y∈AllR c xb tv→y∉AllR d yb tv2)(hY: ∀y,y∈Y→wB.heap.size≤y)(hF:Fr [] wB w){e:Ending}(hs:StepR Y w xb c k a tv false e w'):
 e=.returned (.bool true)∧∃Y' k' rs' tv' s' t' f,RunAt Y' w' xb c k' rs' tv' s' t' f∧RunAt Y' w' yb d k2 rs2 tv2 s2 t2 g∧(∀y,y∈AllR c xb tv'→y∉AllR d yb tv2)∧(∀y,y∈Y'→wB.heap.size≤y)∧Fr [] wB w'∧(f=false→k'=stepK a k)∧(∀y,y∈Y'→y∈Y∨w.heap.size≤y)∧Fr (runOwn c xb tv) w w':=by
 obtain⟨he,Y',k',rs',tv',s',t',full',q1,q2,q3,q4,q5,_,q7⟩:=hs;refine⟨he,Y',k',rs',tv',s',t',full',q1,h2.other2 q5 (fun x hx=>⟨run_own_sub h1 x hx,hD x (run_own_all _ _ _ x hx)⟩) q2 q3 q1.lt,fun y hy hc=> ?_,fun y hy=> ?_,hF.trans q5 (fun x hx=> .inr (hY x (run_own_sub h1 x hx))),q7,q3,q5⟩
 ·have hc2:=h2.lt y (h2.all_in y hc);rcases List.mem_append.1 hy with hy|hy
  ·exact hD y (List.mem_append_left _ hy) hc
  ·rcases List.mem_cons.1 hy with rfl|hy
   ·exact hD _ (by simp[AllR]) hc
   ·rcases q4 y (by simpa using hy)with h|h
    ·exact hD y (by simp[AllR,h]) hc
    ·omega
 ·rcases q3 y hy with h|h
  ·exact hY y h
  ·exact Nat.le_trans hF.size h
theorem box_two(h1:RunAt Y w xb c k rs tv s t full)(hb:bb∉Y)(ho:blk w bb=some O)(q3: ∀y,y∈Y'→y∈Y∨w.heap.size≤y)(q5:Fr (runOwn c xb tv) w w'):bb∉Y'∧blk w' bb=some O:=by
 have hl:=zF ho;refine⟨fun hc=> ?_,q5.at ho (fun hc=>hb (run_own_sub h1 _ hc))⟩;rcases q3 _ hc with h|h
 ·exact hb h
 ·omega
theorem e2_stepx(h:E2 wB xb yb false false Eq bb O w)(ha:a.In wB)(hf:a.Fair):Calls Tryz.prog 8 #[.pointer (some ⟨xb,0,none⟩),.agg a.cells] w fun e w'=>e=.returned (.bool true)∧∃f,Hid (E2 wB xb yb f false (fun k k2=>k=stepK a k2) bb O w'):=by
 obtain⟨Y,c,k,rs,tv,s,t,d,k2,rs2,tv2,s2,t2,h1,h2,h3,h4,h5,h6,h7,h8⟩:=h;refine(step_c h1 (act_ok ha hf h4 h5)).mono ?_;intro e w' hs;obtain⟨he,Y',k',rs',tv',s',t',f,q1,q2,q3,q4,q5,q6,q7,q8⟩:=step_two h1 h2 h3 h4 h5 hs;obtain⟨b1,b2⟩:=box_two h1 h7 h8 q7 q8;exact⟨he,f,Lib.hid ⟨Y',c,k',rs',tv',s',t',d,k2,rs2,tv2,s2,t2,q1,q2,q3,q4,q5,fun hf _=>by rw[q6 hf,h6 rfl rfl],b1,b2⟩⟩
theorem e2_stepy(h:E2 wB xb yb f false (fun k k2=>k=stepK a k2) bb O w)(ha:a.In wB)(hf:a.Fair):Calls Tryz.prog 8 #[.pointer (some ⟨yb,0,none⟩),.agg a.cells] w fun e w'=>e=.returned (.bool true)∧∃g,Hid (E2 wB xb yb f g Eq bb O w'):=by
 obtain⟨Y,c,k,rs,tv,s,t,d,k2,rs2,tv2,s2,t2,h1,h2,h3,h4,h5,h6,h7,h8⟩:=h;refine(step_c h2 (act_ok ha hf h4 h5)).mono ?_;intro e w' hs;obtain⟨he,Y',k',rs',tv',s',t',g,q1,q2,q3,q4,q5,q6,q7,q8⟩:=step_two h2 h1 (fun y hy hc=>h3 y hc hy) h4 h5 hs;obtain⟨b1,b2⟩:=box_two h2 h7 h8 q7 q8;exact⟨he,g,Lib.hid ⟨Y',c,k,rs,tv,s,t,d,k',rs',tv',s',t',q2,q1,fun y hy hc=>q3 y hc hy,q4,q5,fun hf hg=>by rw[q6 hg,h6 hf rfl],b1,b2⟩⟩
theorem RunAt.own_go(h:RunAt Y w xb c k rs tv s t full)(hk:Ks w w' c Y k rs):RunAt Y w' xb c k rs tv s t full∧Fr c.own w w':=
 ⟨h.go hk.frw.size (hk.frw.at h.hx (fun hc=>h.xc (zm hc))) hk.base (h.hm.fr hk.frw h.ownY) (h.tkf hk.frw (fun x hx=> .inl (zm hx))),hk.frw⟩
theorem e2_same(h:E2 wB xb yb false false Eq bb O w)(word:Int)(hw:W64 word): ∃(kx ky:Nat) (u v n:Int) (b:Bool) (PP:World→Prop),PP w∧Hid (∀W W',PP W→Fr [] W W'→PP W')∧
 Hid (∀W,PP W→W.cell? ⟨xb,1,none⟩=some (.pointer (some ⟨kx,0,none⟩))∧W.cell? ⟨yb,1,none⟩=some (.pointer (some ⟨ky,0,none⟩))∧blk W bb=some O)∧
 Hid (∀W,PP W→Calls Tryz.prog 9 #[.pointer (some ⟨kx,0,none⟩),.int .u64 word] W fun e w'=>e=.returned (.tuple #[.int .i64 u,.int .u64 v,.bool b])∧PP w')∧
 Hid (∀W,PP W→Calls Tryz.prog 9 #[.pointer (some ⟨ky,0,none⟩),.int .u64 word] W fun e w'=>e=.returned (.tuple #[.int .i64 u,.int .u64 v,.bool b])∧PP w')∧
 Hid (∀W,PP W→Calls Tryz.prog 10 #[.pointer (some ⟨kx,0,none⟩)] W fun e w'=>e=.returned (.int .i64 n)∧PP w')∧
 Hid (∀W,PP W→Calls Tryz.prog 10 #[.pointer (some ⟨ky,0,none⟩)] W fun e w'=>e=.returned (.int .i64 n)∧PP w')∧
 Hid (∀W,PP W→E20 wB xb yb W):=by
 obtain⟨Y,c,k,rs,tv,s,t,d,k2,rs2,tv2,s2,t2,h1,h2,h3,h4,h5,h6,h7,h8⟩:=h;obtain rfl:=h6 rfl rfl;obtain⟨u,v,b,hf⟩:=findW_tup word k.fs
 have gox: ∀W W',(RunAt Y W xb c k rs tv s t false∧RunAt Y W yb d k rs2 tv2 s2 t2 false∧Fr [] wB W∧blk W bb=some O)→Ks W W' c Y k rs→(RunAt Y W' xb c k rs tv s t false∧RunAt Y W' yb d k rs2 tv2 s2 t2 false∧Fr [] wB W'∧blk W' bb=some O):=fun W W' ⟨g1,g2,g3,g4⟩ hk=>by
  obtain⟨r1,r2⟩:=g1.own_go hk;exact⟨r1,g2.other2 r2 (fun x hx=>⟨g1.ownY x hx,h3 x (List.mem_append_left _ (zm hx))⟩) (fun y hy=>hy) (fun y hy=> .inl hy) r1.lt,g3.trans r2 (fun x hx=> .inr (h4 x (g1.ownY x hx))),r2.at g4 (fun hc=>h7 (g1.ownY _ hc))⟩
 have goy: ∀W W',(RunAt Y W xb c k rs tv s t false∧RunAt Y W yb d k rs2 tv2 s2 t2 false∧Fr [] wB W∧blk W bb=some O)→Ks W W' d Y k rs2→(RunAt Y W' xb c k rs tv s t false∧RunAt Y W' yb d k rs2 tv2 s2 t2 false∧Fr [] wB W'∧blk W' bb=some O):=fun W W' ⟨g1,g2,g3,g4⟩ hk=>by
  obtain⟨r1,r2⟩:=g2.own_go hk;exact⟨g1.other2 r2 (fun x hx=>⟨g2.ownY x hx,fun hc=>h3 x hc (List.mem_append_left _ (zm hx))⟩) (fun y hy=>hy) (fun y hy=> .inl hy) r1.lt,r1,g3.trans r2 (fun x hx=> .inr (h4 x (g2.ownY x hx))),r2.at g4 (fun hc=>h7 (g2.ownY _ hc))⟩
 refine⟨c.kb,d.kb,u,v,(k.fs.length:Int),b,fun W=>RunAt Y W xb c k rs tv s t false∧RunAt Y W yb d k rs2 tv2 s2 t2 false∧Fr [] wB W∧blk W bb=some O,⟨h1,h2,h5,h8⟩,Lib.hid fun W W' ⟨g1,g2,g3,g4⟩ hF=>⟨g1.keep hF,g2.keep hF,g3.trans hF (by simp),hF.at g4 (by simp)⟩,Lib.hid fun W g=>⟨zA g.1.hb.out (i:=1) rfl,zA g.2.1.hb.out (i:=1) rfl,g.2.2.2⟩,Lib.hid fun W g=> ?_,Lib.hid fun W g=> ?_,Lib.hid fun W g=> ?_,Lib.hid fun W g=> ?_,Lib.hid fun W g=>⟨Y,c,k,rs,tv,s,t,d,rs2,tv2,s2,t2,g.1,g.2.1,h3,h4,g.2.2.1⟩⟩
 ·refine(ks_find g.1.hk g.1.cm g.1.lt word hw).mono ?_;rintro e w' ⟨rfl,hk⟩;exact⟨by rw[hf],gox W w' g hk⟩
 ·refine(ks_find g.2.1.hk g.2.1.cm g.2.1.lt word hw).mono ?_;rintro e w' ⟨rfl,hk⟩;exact⟨by rw[hf],goy W w' g hk⟩
 ·refine(ks_fibers g.1.hk g.1.cm).mono ?_;rintro e w' ⟨rfl,hk⟩;exact⟨rfl,gox W w' g hk⟩
 ·refine(ks_fibers g.2.1.hk g.2.1.cm).mono ?_;rintro e w' ⟨rfl,hk⟩;exact⟨rfl,goy W w' g hk⟩
theorem e2_made(hB:Fr [] wB w){e:Ending}(h:MadeR w e w1): ∃xb,e=.returned (.pointer (some ⟨xb,0,none⟩))∧Hid (Calls Tryz.prog 7 #[.int .i64 600,.bool false] w1 fun e w'=> ∃yb,e=.returned (.pointer (some ⟨yb,0,none⟩))∧Hid (E20 wB xb yb w')):=by
 obtain⟨xb,c,s,rfl,h1,h2,h3⟩:=h;refine⟨xb,rfl,Lib.hid ((runmade_c w1 false).mono ?_)⟩;rintro e w' ⟨yb,d,s2,rfl,g1,g2,g3⟩;have r1:=h1 [] (fun y hy=>nomatch hy);rw[List.nil_append]at r1;have r2:=g1 (xb::c.all) (fun y hy=>r1.lt y hy)
 have r3:=r1.other2 (S:=[]) g3 (fun x hx=>nomatch hx) (fun y hy=>List.mem_append_left (yb::d.all) hy) (fun y hy=>by
  rcases List.mem_append.1 hy with hy|hy
  ·exact .inl hy
  ·exact .inr (g2 y hy)) r2.lt
 refine⟨yb,rfl,Lib.hid ⟨_,c,newK,[],_,s,SV.none,d,[],_,s2,SV.none,r3,r2,fun y hy hc=> ?_,fun y hy=> ?_,(hB.trans h3 (by simp)).trans g3 (by simp)⟩⟩
 ·have hy2:y∈xb::c.all:=by
   rcases List.mem_append.1 hy with hy|hy
   ·exact List.mem_cons_of_mem _ hy
   ·rcases List.mem_cons.1 hy with rfl|hy
    ·simp
    ·simp[Value.ownBlock]at hy
  have hc2:y∈yb::d.all:=by
   rcases List.mem_append.1 hc with hc|hc
   ·exact List.mem_cons_of_mem _ hc
   ·rcases List.mem_cons.1 hc with rfl|hc
    ·simp
    ·simp[Value.ownBlock]at hc
  have:=r1.lt y hy2;have:=g2 y hc2;omega
 ·rcases List.mem_append.1 hy with hy|hy
  ·exact Nat.le_trans hB.size (h2 y hy)
  ·exact Nat.le_trans hB.size (Nat.le_trans h3.size (g2 y hy))
end
end Go.Proofs.YtghkahcogphomaaGreat
