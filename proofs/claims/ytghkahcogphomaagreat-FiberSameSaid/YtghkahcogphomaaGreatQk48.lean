/- Fibers: a part of the walk. No condition. -/
import Derived.Test.YtghkahcogphomaaGreatQk44
import Derived.Test.YtghkahcogphomaaGreatQk45
import Derived.Test.YtghkahcogphomaaGreatQk46
import Derived.Test.YtghkahcogphomaaGreatQk47
set_option linter.all false
namespace Go.Proofs.YtghkahcogphomaaGreat
section
open Go.ChangeShapes Go.WideShapes Go.RowKit
variable{w w1 w2 w5 w':World}{Y Y':List Nat}{xb:Nat}{c:Sk}{k k':PK}{rs rs':List Int}{tv tv':Value}{s t s' t':SV}{full full':Bool}{a:AV}
theorem RunAt.go(h:RunAt Y w xb c k rs tv s t full)(hs:w.heap.size≤w'.heap.size)(hx:blk w' xb=some (.cells (runCells c tv s' t' full') 42 (0,0)))(hk:Ks w' w' c Y k' rs')(hm:MdR Y w' s' t' k')(ht:TkAt w' 0 tv rs'):RunAt Y w' xb c k' rs' tv s' t' full':=
 ⟨hx,hk,hm,ht,h.cm,h.xc,h.tc,h.sub,h.sx,h.st,fun y hy=>Nat.lt_of_lt_of_le (h.lt y hy) hs⟩
theorem RunAt.hb(h:RunAt Y w xb c k rs tv s t full):Hid (blk w xb=some (.cells #[.pointer (some ⟨c.sb,0,none⟩),.pointer (some ⟨c.kb,0,none⟩),tv,.slice s.a s.n s.cap,.slice t.a t.n t.cap,.bool full] 42 (0,0))):=Lib.hid h.hx
theorem RunAt.own(h:RunAt Y w xb c k rs tv s t full):Hid (xb∉c.own∧∀x,x∈c.own→x<w.heap.size):=Lib.hid ⟨fun hc=>h.xc (zm hc),fun x hx=>h.lt x (h.sub x (zm hx))⟩
theorem RunAt.ownY(h:RunAt Y w xb c k rs tv s t full): ∀x,x∈c.own→x∈Y:=fun x hx=>h.sub x (zm hx)
theorem RunAt.szs(h:RunAt Y w xb c k rs tv s t full):Szs k:=h.hk.szs h.cm
theorem RunAt.top(h:RunAt Y w xb c k rs tv s t full): ∃p l,k.fs=p::l:=by
 have:=h.szs.ne;cases hk:k.fs with
 |nil=>exact absurd hk this
 |cons p l=>exact⟨p,l,rfl⟩
theorem RunAt.ks(h:RunAt Y w xb c k rs tv s t full){W:World}(hF:Fr [] w W):Ks W W c Y k rs:=(h.hk.keep hF).base
theorem RunAt.md(h:RunAt Y w xb c k rs tv s t full){W:World}(hF:Fr [] w W):MdR Y W s t k:=h.hm.keep hF
theorem RunAt.ltw(h:RunAt Y w xb c k rs tv s t full){W:World}(hF:Fr [] w W): ∀y,y∈Y→y<W.heap.size:=fun y hy=>Nat.lt_of_lt_of_le (h.lt y hy) hF.size
theorem RunAt.tkf(h:RunAt Y w xb c k rs tv s t full){W:World}{S:List Nat}(hF:Fr S w W)(hS: ∀x,x∈S→x∈c.all∨x=xb):TkAt W 0 tv rs:=h.tk.fr hF (fun x hx hc=>by
 obtain⟨h1,h2⟩:=h.tc x hx;rcases hS x hc with h|h
 ·exact h1 h
 ·exact h2 h)
theorem run_own(c:Sk)(xb:Nat)(tv:Value):(∀x,x∈c.own→x∈runOwn c xb tv)∧xb∈runOwn c xb tv∧∀g,tv.ownBlock=some g→g∈runOwn c xb tv:=
 ⟨fun x hx=>List.mem_append_left _ hx,by simp[runOwn],fun g hg=>by simp[runOwn,hg]⟩
def KKd(c:Sk)(Y:List Nat)(k:PK)(rs:List Int)(o:Option PK)(ok:Bool)(w':World):Prop:=(ok=true∧∃k',o=some k'∧Ks w' w' c Y k' rs)∨(ok=false∧Ks w' w' c Y k rs)
theorem did_kk{W:World}{o:Option PK}{ok:Bool}(h:Did W c Y k rs o ok w'):KKd c Y k rs o ok w'∧Fr c.own W w':=by
 rcases h with⟨h1,k',h2,h3⟩|⟨h1,h3⟩
 ·exact⟨.inl ⟨h1,k',h2,h3.base⟩,h3.frw⟩
 ·exact⟨.inr ⟨h1,h3.base⟩,h3.frw⟩
theorem kk_mk{o:Option PK}{ok:Bool}(h:KKd c Y k rs o ok w'):(ok=true∧o.isSome=true)∨(ok=false∧o.isSome=false)∨(ok=false∧o.isSome=true):=by
 rcases h with⟨h1,k',h2,_⟩|⟨h1,_⟩
 ·exact .inl ⟨h1,by rw[h2];rfl⟩
 ·cases o with
  |none=>exact .inr (.inl ⟨h1,rfl⟩)
  |some k'=>exact .inr (.inr ⟨h1,rfl⟩)
theorem fin_A(h:RunAt Y w xb c k rs tv s t full)(o:Option PK){ok:Bool}(f1:Fr [] w w1)(d:MdR Y w1 s' t' (o.getD k))(f2:Fr c.own w1 w5)(kk:KKd c Y k rs o ok w5)(f3:Fr [xb] w5 w')
 (hx:blk w' xb=some (.cells #[.pointer (some ⟨c.sb,0,none⟩),.pointer (some ⟨c.kb,0,none⟩),tv,if ok=true then .slice s'.a s'.n s'.cap else .slice s.a s.n s.cap,if ok=true then .slice t'.a t'.n t'.cap else .slice t.a t.n t.cap,.bool (if ok=false∧o.isSome=true then true else full)] 42 (0,0)))
 (hst:stepK a k=o.getD k):StepR Y w xb c k a tv full (.returned (.bool true)) w':=by
 obtain⟨r1,r2,r3⟩:=run_own c xb tv;have fx: ∀x,x∈[xb]→x∈Y:=fun x hx=>by simp at hx;subst hx;exact h.sx
 have hall:Fr (runOwn c xb tv) w w':=((f1.mono (by simp)).same (f2.mono (fun x hx=> .inl (r1 x hx)))).same (f3.mono (fun x hx=> .inl (by simp at hx;subst hx;exact r2)));have hsz:=hall.size;have tk:TkAt w' 0 tv rs:=((h.tkf (f1.mono (T:=c.own) (by simp)|>.same f2) (fun x hx=> .inl (zm hx))).fr f3 (fun x hx hc=>(h.tc x hx).2 (by simpa using hc)));rcases kk with⟨rfl,k',rfl,q2⟩|⟨rfl,q2⟩
 ·refine⟨rfl,Y,k',rs,tv,s',t',full,h.go hsz ?_ (q2.other f3 (fun y hy=>by simp at hy;subst hy;exact⟨h.sx,h.xc⟩)) ((d.fr f2 h.ownY).fr f3 fx) tk,fun y hy=>hy,fun y hy=> .inl hy,fun g hg=> .inl hg,hall,id,fun _=>hst.symm⟩;simpa[runCells]using hx
 ·refine⟨rfl,Y,k,rs,tv,s,t,if o.isSome=true then true else full,h.go hsz ?_ (q2.other f3 (fun y hy=>by simp at hy;subst hy;exact⟨h.sx,h.xc⟩)) (((h.hm.keep f1).fr f2 h.ownY).fr f3 fx) tk,fun y hy=>hy,fun y hy=> .inl hy,fun g hg=> .inl hg,hall, ?_, ?_⟩
  ·simpa[runCells]using hx
  ·intro hfull;rw[hfull];split<;>rfl
  ·intro hf;cases o with
   |none=>exact hst.symm
   |some k'=>simp at hf
theorem step_push(h:RunAt Y w xb c k rs tv s t full)(ha:a.Ok Y w)(hk:a.kind=0):Calls Tryz.prog 8 #[.pointer (some ⟨xb,0,none⟩),.agg a.cells] w (StepR Y w xb c k a tv full):=by
 obtain⟨p,l,htop⟩:=h.top;unfold AV.cells;rw[hk];have hsz:=h.szs;refine(step_0 w xb c.kb _ tv s.a t.a s.n s.cap t.n t.cap full a.n a.m a.word a.deep a.sl.a a.sq.a a.sl.n a.sl.cap a.sq.n a.sq.cap a.p0 a.p1 h.hb (D:=fun na nn nc ma mn mc W=>MdR Y W ⟨na,nn,nc⟩ ⟨ma,mn,mc⟩ ((topM (pushP a.word a.n a.m) k).getD k)) (KK:=KKd c Y k rs (topM (pushP a.word a.n a.m) k)) (topM (pushP a.word a.n a.m) k).isSome c.own h.own ?_ ?_).mono ?_
 ·refine Lib.hid fun W hF=>(doc_push W a.word a.n a.m (by have:=ha.i_n;unfold I64 at this;omega) (h.md hF) (h.ltw hF) hsz.fit htop).mono ?_
  rintro e w' ⟨s',rfl,hm,hF'⟩;exact⟨_,_,_,_,_,_,rfl,Lib.hid hm,Lib.hid hF'⟩
 ·refine Lib.hid fun W hF=>(ks_push (h.ks hF) a.word a.n a.m ha.wd).mono ?_
  rintro e w' ⟨ok,rfl,hd⟩;obtain⟨h1,h2⟩:=did_kk hd;exact⟨ok,rfl,Lib.hid ⟨h1,by have:=kk_mk h1;simpa using this⟩,Lib.hid h2⟩
 ·rintro e w' ⟨rfl,ok,na,ma,nn,nc,mn,mc,w1,w5,f1,d,f2,kk,f3,hx⟩;exact fin_A h _ f1 d f2 kk f3 hx (by unfold stepK;rw[if_pos hk])
theorem step_pop(h:RunAt Y w xb c k rs tv s t full)(ha:a.Ok Y w)(hk:a.kind=1):Calls Tryz.prog 8 #[.pointer (some ⟨xb,0,none⟩),.agg a.cells] w (StepR Y w xb c k a tv full):=by
 obtain⟨p,l,htop⟩:=h.top;unfold AV.cells;rw[hk];have hsz:=h.szs;refine(step_1 w xb c.kb _ tv s.a t.a s.n s.cap t.n t.cap full a.n a.m a.word a.deep a.sl.a a.sq.a a.sl.n a.sl.cap a.sq.n a.sq.cap a.p0 a.p1 h.hb (D:=fun na nn nc ma mn mc W=>MdR Y W ⟨na,nn,nc⟩ ⟨ma,mn,mc⟩ ((topM popP k).getD k)) (KK:=KKd c Y k rs (topM popP k)) (topM popP k).isSome c.own h.own ?_ ?_).mono ?_
 ·refine Lib.hid fun W hF=>(doc_pop W (h.md hF) (h.ltw hF) hsz.fit htop).mono ?_
  rintro e w' ⟨s',rfl,hm,hF'⟩;exact⟨_,_,_,_,_,_,rfl,Lib.hid hm,Lib.hid hF'⟩
 ·refine Lib.hid fun W hF=>(ks_pop (h.ks hF)).mono ?_
  rintro e w' ⟨rfl,hd⟩;obtain⟨h1,h2⟩:=did_kk hd;exact⟨_,rfl,Lib.hid ⟨h1,by cases (topM popP k).isSome<;>simp⟩,Lib.hid h2⟩
 ·rintro e w' ⟨rfl,ok,na,ma,nn,nc,mn,mc,w1,w5,f1,d,f2,kk,f3,hx⟩;exact fin_A h _ f1 d f2 kk f3 hx (by unfold stepK;rw[hk];simp)
theorem step_setslot(h:RunAt Y w xb c k rs tv s t full)(ha:a.Ok Y w)(hk:a.kind=3):Calls Tryz.prog 8 #[.pointer (some ⟨xb,0,none⟩),.agg a.cells] w (StepR Y w xb c k a tv full):=by
 obtain⟨p,l,htop⟩:=h.top;unfold AV.cells;rw[hk];have hsz:=h.szs;refine(step_3 w xb c.kb _ tv s.a t.a s.n s.cap t.n t.cap full a.n a.m a.word a.deep a.sl.a a.sq.a a.sl.n a.sl.cap a.sq.n a.sq.cap a.p0 a.p1 h.hb (D:=fun na nn nc ma mn mc W=>MdR Y W ⟨na,nn,nc⟩ ⟨ma,mn,mc⟩ ((topM (zp a.n a.word) k).getD k)) (KK:=KKd c Y k rs (topM (zp a.n a.word) k)) (topM (zp a.n a.word) k).isSome c.own h.own ?_ ?_).mono ?_
 ·refine Lib.hid fun W hF=>(doc_setslot W a.n a.word (h.md hF) (h.ltw hF) hsz.fit htop).mono ?_
  rintro e w' ⟨s',rfl,hm,hF'⟩;exact⟨_,_,_,_,_,_,rfl,Lib.hid hm,Lib.hid hF'⟩
 ·refine Lib.hid fun W hF=>(ks_setslot (h.ks hF) a.n a.word ha.wd).mono ?_
  rintro e w' ⟨rfl,hd⟩;obtain⟨h1,h2⟩:=did_kk hd;exact⟨_,rfl,Lib.hid ⟨h1,by cases (topM (zp a.n a.word) k).isSome<;>simp⟩,Lib.hid h2⟩
 ·rintro e w' ⟨rfl,ok,na,ma,nn,nc,mn,mc,w1,w5,f1,d,f2,kk,f3,hx⟩;exact fin_A h _ f1 d f2 kk f3 hx (by unfold stepK;rw[hk];simp)
theorem step_put(h:RunAt Y w xb c k rs tv s t full)(ha:a.Ok Y w)(hk:a.kind=4):Calls Tryz.prog 8 #[.pointer (some ⟨xb,0,none⟩),.agg a.cells] w (StepR Y w xb c k a tv full):=by
 obtain⟨p,l,htop⟩:=h.top;unfold AV.cells;rw[hk];have hsz:=h.szs;refine(step_4 w xb c.kb _ tv s.a t.a s.n s.cap t.n t.cap full a.n a.m a.word a.deep a.sl.a a.sq.a a.sl.n a.sl.cap a.sq.n a.sq.cap a.p0 a.p1 h.hb (D:=fun na nn nc ma mn mc W=>MdR Y W ⟨na,nn,nc⟩ ⟨ma,mn,mc⟩ ((topM (putP a.word) k).getD k)) (KK:=KKd c Y k rs (topM (putP a.word) k)) (topM (putP a.word) k).isSome c.own h.own ?_ ?_).mono ?_
 ·refine Lib.hid fun W hF=>(doc_put W a.word (h.md hF) (h.ltw hF) hsz.fit htop).mono ?_
  rintro e w' ⟨s',rfl,hm,hF'⟩;exact⟨_,_,_,_,_,_,rfl,Lib.hid hm,Lib.hid hF'⟩
 ·refine Lib.hid fun W hF=>(ks_put (h.ks hF) a.word ha.wd).mono ?_
  rintro e w' ⟨rfl,hd⟩;obtain⟨h1,h2⟩:=did_kk hd;exact⟨_,rfl,Lib.hid ⟨h1,by cases (topM (putP a.word) k).isSome<;>simp⟩,Lib.hid h2⟩
 ·rintro e w' ⟨rfl,ok,na,ma,nn,nc,mn,mc,w1,w5,f1,d,f2,kk,f3,hx⟩;exact fin_A h _ f1 d f2 kk f3 hx (by unfold stepK;rw[hk];simp)
theorem step_nothing(h:RunAt Y w xb c k rs tv s t full)(hk:a.kind<0∨12<a.kind):Calls Tryz.prog 8 #[.pointer (some ⟨xb,0,none⟩),.agg a.cells] w (StepR Y w xb c k a tv full):=by
 unfold AV.cells;refine(step_none w xb c.kb _ tv s.a t.a s.n s.cap t.n t.cap full a.n a.m a.word a.deep a.sl.a a.sq.a a.sl.n a.sl.cap a.sq.n a.sq.cap a.p0 a.p1 h.hb a.kind hk).mono ?_;rintro e w' ⟨rfl,hF⟩;refine⟨rfl,Y,k,rs,tv,s,t,full,h.keep hF,fun y hy=>hy,fun y hy=> .inl hy,fun g hg=> .inl hg,hF.mono (by simp),id,fun _=> ?_⟩;unfold stepK;have e0: ∀i:Int,0≤i→i≤12→¬a.kind=i:=fun i h0 h1 hc=>by omega
 simp[e0]
theorem step_leave(h:RunAt Y w xb c k rs tv s t full)(hk:a.kind=7):Calls Tryz.prog 8 #[.pointer (some ⟨xb,0,none⟩),.agg a.cells] w (StepR Y w xb c k a tv full):=by
 obtain⟨p,l,htop⟩:=h.top;unfold AV.cells;rw[hk];have hsz:=h.szs;refine(step_7 w xb c.kb _ tv s.a t.a s.n s.cap t.n t.cap full a.n a.m a.word a.deep a.sl.a a.sq.a a.sl.n a.sl.cap a.sq.n a.sq.cap a.p0 a.p1 h.hb (D:=fun na nn nc ma mn mc W=>MdR Y W ⟨na,nn,nc⟩ ⟨ma,mn,mc⟩ ((leaveM k).getD k)) (KK:=KKd c Y k rs (leaveM k) (leaveM k).isSome) c.own h.own (if(leaveM k).isSome=true then leaveW k else 45) (leaveM k).isSome ?_ ?_).mono ?_
 ·refine Lib.hid fun W hF=>(doc_leave W (h.md hF) (h.ltw hF) hsz.fit htop).mono ?_
  rintro e w' ⟨s',rfl,hm,hF'⟩;exact⟨_,_,_,_,_,_,rfl,Lib.hid hm,Lib.hid hF'⟩
 ·refine Lib.hid fun W hF=>(ks_leave (h.ks hF)).mono ?_
  rintro e w' ⟨rfl,hd⟩;obtain⟨h1,h2⟩:=did_kk hd;exact⟨rfl,Lib.hid h1,Lib.hid h2⟩
 ·rintro e w' ⟨rfl,na,ma,nn,nc,mn,mc,w1,w5,f1,d,f2,kk,f3,hx⟩;refine fin_A h (leaveM k) f1 d f2 kk f3 ?_ (by unfold stepK;rw[hk];simp);rw[hx];unfold endX;cases (leaveM k).isSome<;>simp
theorem step_setpc(h:RunAt Y w xb c k rs tv s t full)(hk:a.kind=2):Calls Tryz.prog 8 #[.pointer (some ⟨xb,0,none⟩),.agg a.cells] w (StepR Y w xb c k a tv full):=by
 obtain⟨p,l,htop⟩:=h.top;unfold AV.cells;rw[hk];have hsz:=h.szs;have hr: -100000<a.n.tmod 100000∧a.n.tmod 100000<100000:=⟨Int.lt_tmod_of_pos _ (by omega),Int.tmod_lt_of_pos _ (by omega)⟩;refine(step_2 w xb c.kb _ tv s.a t.a s.n s.cap t.n t.cap full a.n a.m a.word a.deep a.sl.a a.sq.a a.sl.n a.sl.cap a.sq.n a.sq.cap a.p0 a.p1 h.hb (D:=fun na nn nc ma mn mc W=>MdR Y W ⟨na,nn,nc⟩ ⟨ma,mn,mc⟩ ((topM (setpcP (a.n.tmod 100000)) k).getD k)) (KK:=fun W=>Ks W W c Y ((topM (setpcP (a.n.tmod 100000)) k).getD k) rs) c.own h.own (a.n.tmod 100000) rfl ?_ ?_).mono ?_
 ·refine Lib.hid fun W hF=>(ks_setpc (h.ks hF) (a.n.tmod 100000) (by omega) (by omega)).mono ?_
  rintro e w' ⟨rfl,hd⟩;exact⟨rfl,Lib.hid hd.base,Lib.hid hd.frw⟩
 ·refine Lib.hid fun W hF=>(doc_setpc W (a.n.tmod 100000) (h.hm.fr hF h.ownY) (fun y hy=>Nat.lt_of_lt_of_le (h.lt y hy) hF.size) hsz.fit htop).mono ?_
  rintro e w' ⟨s',rfl,hm,hF'⟩;exact⟨_,_,_,_,_,_,rfl,Lib.hid hm,Lib.hid hF'⟩
 ·rintro e w' ⟨rfl,na,ma,nn,nc,mn,mc,w1,w2,f1,kk,f2,d,f3,hx⟩;obtain⟨r1,r2,r3⟩:=run_own c xb tv;have fx: ∀x,x∈[xb]→x∈Y:=fun x hx=>by simp at hx;subst hx;exact h.sx
  have hall:Fr (runOwn c xb tv) w w':=((f1.mono (fun x hx=> .inl (r1 x hx))).same (f2.mono (by simp))).same (f3.mono (fun x hx=> .inl (by simp at hx;subst hx;exact r2)));have tk:TkAt w' 0 tv rs:=((h.tkf (f1.same (f2.mono (by simp))) (fun x hx=> .inl (zm hx))).fr f3 (fun x hx hc=>(h.tc x hx).2 (by simpa using hc)));exact⟨rfl,Y,_,rs,tv,⟨na,nn,nc⟩,⟨ma,mn,mc⟩,full,h.go hall.size hx ((kk.keep f2).base.other f3 (fun y hy=>by simp at hy;subst hy;exact⟨h.sx,h.xc⟩)) (d.fr f3 fx) tk,fun y hy=>hy,fun y hy=> .inl hy,fun g hg=> .inl hg,hall,id,fun _=>by unfold stepK;rw[hk];simp⟩
theorem step_take(h:RunAt Y w xb c k rs tv s t full)(hk:a.kind=5):Calls Tryz.prog 8 #[.pointer (some ⟨xb,0,none⟩),.agg a.cells] w (StepR Y w xb c k a tv full):=by
 obtain⟨p,l,htop⟩:=h.top;unfold AV.cells;rw[hk];have hsz:=h.szs;refine(step_5 w xb c.kb _ tv s.a t.a s.n s.cap t.n t.cap full a.n a.m a.word a.deep a.sl.a a.sq.a a.sl.n a.sl.cap a.sq.n a.sq.cap a.p0 a.p1 h.hb (D:=fun na nn nc ma mn mc W=>MdR Y W ⟨na,nn,nc⟩ ⟨ma,mn,mc⟩ ((topM takeP k).getD k)) (KK:=fun W=>Ks W W c Y ((topM takeP k).getD k) rs) c.own h.own (lastW k) ?_ ?_).mono ?_
 ·refine Lib.hid fun W hF=>(doc_take W (h.md hF) (h.ltw hF) hsz.fit htop).mono ?_
  rintro e w' ⟨s',rfl,hm,hF'⟩;exact⟨_,_,_,_,_,_,rfl,Lib.hid hm,Lib.hid hF'⟩
 ·refine Lib.hid fun W hF=>(ks_take (h.hk.other hF (fun y hy=>by simp at hy;subst hy;exact⟨h.sx,h.xc⟩))).mono ?_
  rintro e w' ⟨rfl,hd⟩;exact⟨rfl,Lib.hid hd.base,Lib.hid hd.frw⟩
 ·rintro e w' ⟨rfl,na,ma,nn,nc,mn,mc,w1,w2,f1,d,f2,hx,kk,f3⟩;obtain⟨r1,r2,r3⟩:=run_own c xb tv;have fx: ∀x,x∈[xb]→x∈Y:=fun x hx=>by simp at hx;subst hx;exact h.sx
  have hall:Fr (runOwn c xb tv) w w':=((f1.mono (by simp)).same (f2.mono (fun x hx=> .inl (by simp at hx;subst hx;exact r2)))).same (f3.mono (fun x hx=> .inl (r1 x hx)));have tk:TkAt w' 0 tv rs:=((h.tkf (f1.mono (T:=[xb]) (by simp)|>.same f2) (fun x hx=> .inr (by simpa using hx))).fr f3 (fun x hx hc=>(h.tc x hx).1 (zm hc)));exact⟨rfl,Y,_,rs,tv,⟨na,nn,nc⟩,⟨ma,mn,mc⟩,full,h.go hall.size (f3.at hx (fun hc=>h.xc (zm hc))) kk ((d.fr f2 fx).fr f3 h.ownY) tk,fun y hy=>hy,fun y hy=> .inl hy,fun g hg=> .inl hg,hall,id,fun _=>by unfold stepK;rw[hk];simp⟩
theorem findW_tup(label:Int)(fs:List PF): ∃u v b,findW label fs=.tuple #[.int .i64 u,.int .u64 v,.bool b]:=by
 unfold findW;cases fndP label fs 0 with
 |none=>exact⟨_,_,_,rfl⟩
 |some r=>obtain⟨u,i⟩:=r;exact⟨_,_,_,rfl⟩
theorem step_find(h:RunAt Y w xb c k rs tv s t full)(ha:a.Ok Y w)(hk:a.kind=8):Calls Tryz.prog 8 #[.pointer (some ⟨xb,0,none⟩),.agg a.cells] w (StepR Y w xb c k a tv full):=by
 unfold AV.cells;rw[hk];have hsz:=h.szs;obtain⟨u,v,b,hf⟩:=findW_tup a.word k.fs;refine(step_8 w xb c.kb _ tv s.a t.a s.n s.cap t.n t.cap full a.n a.m a.word a.deep a.sl.a a.sq.a a.sl.n a.sl.cap a.sq.n a.sq.cap a.p0 a.p1 h.hb (D:=fun _ _ _ _ _ _ _=>True) (KK:=fun W=>Ks W W c Y k rs) c.own h.own u v b ?_ ?_).mono ?_
 ·refine Lib.hid fun W hF=>(doc_find W a.word (h.md hF) hsz.fit hsz.hs).mono ?_
  rintro e w' ⟨rfl,_,hF'⟩;exact⟨by rw[hf],Lib.hid hF'⟩
 ·refine Lib.hid fun W hF=>(ks_find (h.ks hF) h.cm (h.ltw hF) a.word ha.wd.1).mono ?_
  rintro e w' ⟨rfl,hd⟩;exact⟨by rw[hf],Lib.hid hd.base,Lib.hid hd.frw⟩
 ·rintro e w' ⟨rfl,w1,f1,kk,f2⟩;obtain⟨r1,r2,r3⟩:=run_own c xb tv;have hall:Fr (runOwn c xb tv) w w':=(f1.mono (by simp)).same (f2.mono (fun x hx=> .inl (r1 x hx)));exact⟨rfl,Y,k,rs,tv,s,t,full,h.go hall.size (f2.at (f1.at h.hx (by simp)) (fun hc=>h.xc (zm hc))) kk ((h.hm.keep f1).fr f2 h.ownY) (h.tkf (f1.mono (T:=c.own) (by simp)|>.same f2) (fun x hx=> .inl (zm hx))),fun y hy=>hy,fun y hy=> .inl hy,fun g hg=> .inl hg,hall,id,fun _=>by unfold stepK;rw[hk];simp⟩
theorem newr_fd{H:Nat}{oa:Option Addr}{l:List Int}{n:Nat}(h:NewR H w oa n (zZ l))(hn:n=l.length)(hc: ∀x,x∈c.own→x<H):FdAt w c oa l:=by
 rcases h with h|⟨g,h1,h2,h3,h4⟩
 ·exact .inl (List.eq_nil_of_length_eq_zero (by omega))
 ·refine .inr ⟨g,0,h1,h3,fun hm=>by have:=hc g hm;omega,fun i hi=> ?_⟩;rw[Nat.zero_add];exact h4 i _ (by unfold zZ;rw[List.getElem?_map,List.getElem?_eq_getElem hi];simp)
theorem step_enter(h:RunAt Y w xb c k rs tv s t full)(ha:a.Ok Y w)(hk:a.kind=6):Calls Tryz.prog 8 #[.pointer (some ⟨xb,0,none⟩),.agg a.cells] w (StepR Y w xb c k a tv full):=by
 unfold AV.cells;rw[hk];have hsz:=h.szs;have hln:a.sl.n=a.ls.length:=ha.l.ne;have hqn:a.sq.n=a.ps.length:=ha.q.ne;have h1:=ha.ll;have h2:=ha.lq;obtain⟨o,ho⟩: ∃o,o=enterM ⟨a.deep,a.word,a.ls,a.ps⟩ k:=⟨_,rfl⟩;refine(step_6 w xb c.kb _ tv s.a t.a s.n s.cap t.n t.cap full a.n a.m a.word a.deep a.sl.a a.sq.a a.sl.n a.sl.cap a.sq.n a.sq.cap a.p0 a.p1 h.hb (D:=fun na nn nc ma mn mc W=>MdR Y W ⟨na,nn,nc⟩ ⟨ma,mn,mc⟩ (o.getD k)) (KK:=KKd c Y k rs o) o.isSome c.own h.own (zZ a.ls) (zZ a.ps) (by simp[zZ,hln]) (by simp[zZ,hqn]) (Lib.hid ⟨zz _,zz _⟩) (by omega) (by omega) ?_ ?_ ?_ ?_ (R:=fun w'=>StepR Y w xb c k a tv full (.returned (.bool true)) w') ?_).mono ?_
 ·have:=news_at ha.l;rw[←hln]at this;exact this
 ·have:=news_at ha.q;rw[←hqn]at this;exact this
 ·refine Lib.hid fun W hF=>(doc_enter W ⟨a.deep,a.word,a.ls,a.ps⟩ a.sl a.sq (h.md hF) (h.ltw hF) hsz.fit (Rd.fr (S:=[]) ha.l hF (fun x hx=>nomatch hx)) (Rd.fr (S:=[]) ha.q hF (fun x hx=>nomatch hx))).mono ?_
  rintro e w' ⟨s',rfl,hm,hF'⟩;rw[←ho]at hm;exact⟨_,_,_,_,_,_,by rw[ho],Lib.hid hm,Lib.hid hF'⟩
 ·refine Lib.hid fun W oa ob ca cb hF n1 n2=> ?_
  have hc: ∀x,x∈c.own→x<w.heap.size:=h.own.out.2;have hK:=ks_enter (h.ks hF) a.deep a.word ha.wd a.ls a.ps ha.pl ha.pq oa ob ca cb (newr_fd n1 hln hc) (newr_fd n2 hqn hc);rw[←hln,←hqn,←ho]at hK;refine hK.mono ?_;rintro e w' ⟨ok,rfl,hd⟩;obtain⟨h1,h2⟩:=did_kk hd;exact⟨ok,rfl,Lib.hid ⟨h1,kk_mk h1⟩,Lib.hid h2⟩
 ·exact Lib.hid fun ok na ma nn nc mn mc w1 w5 w' f1 d f2 kk f3 hx=>fin_A h o f1 d f2 kk f3 hx (by unfold stepK;rw[hk,ho];simp)
 ·rintro e w' ⟨rfl,hR⟩;exact hR
def KKt(c:Sk)(Y:List Nat)(k:PK)(rs:List Int)(o:Option PK)(r:Int)(ok:Bool)(w':World):Prop:=(ok=true∧∃k',o=some k'∧Ks w' w' c Y k' (rs++[r]))∨(ok=false∧Ks w' w' c Y k rs)
theorem RunAt.tv0(h:RunAt Y w xb c k rs tv s t full):Hid (∀W,Fr c.own w W→W.ownsRow 0 28 1 tv rs.length (zZ rs)):=Lib.hid fun _ hF=>(h.tkf hF (fun _ hx=> .inl (zm hx))).1
theorem RunAt.tvx(h:RunAt Y w xb c k rs tv s t full):Hid (tv.ownBlock≠some xb):=Lib.hid fun hc=>(h.tc xb hc).2 rfl
theorem RunAt.rsl(h:RunAt Y w xb c k rs tv s t full):rs.length≤1000000:=by
 have:=h.szs.tak.1;have:=h.hk.rsw.2;omega
theorem fin_N(h:RunAt Y w xb c k rs tv s t full)(o:Option PK){r:Int}{yes:Bool}(hy:yes=o.isSome)(f1:Fr [] w w1)(f2:Fr c.own w1 w5)(kk:KKt c Y k rs o r false w5)(f3:Fr [xb] w5 w')
 (hx:blk w' xb=some (.cells #[.pointer (some ⟨c.sb,0,none⟩),.pointer (some ⟨c.kb,0,none⟩),tv,.slice s.a s.n s.cap,.slice t.a t.n t.cap,.bool (if yes=true then true else full)] 42 (0,0)))
 (hst:stepK a k=o.getD k):StepR Y w xb c k a tv full (.returned (.bool true)) w':=by
 have hk:KKd c Y k rs o false w5:=by
  rcases kk with⟨h,_⟩|⟨_,h⟩
  ·cases h
  ·exact .inr ⟨rfl,h⟩
 obtain⟨r1,r2,r3⟩:=run_own c xb tv;have fx: ∀x,x∈[xb]→x∈Y:=fun x hx=>by simp at hx;subst hx;exact h.sx
 have hall:Fr (runOwn c xb tv) w w':=((f1.mono (by simp)).same (f2.mono (fun x hx=> .inl (r1 x hx)))).same (f3.mono (fun x hx=> .inl (by simp at hx;subst hx;exact r2)));have tk:TkAt w' 0 tv rs:=((h.tkf (f1.mono (T:=c.own) (by simp)|>.same f2) (fun x hx=> .inl (zm hx))).fr f3 (fun x hx hc=>(h.tc x hx).2 (by simpa using hc)));rcases hk with⟨h,_⟩|⟨_,q2⟩
 ·cases h
 ·refine⟨rfl,Y,k,rs,tv,s,t,if yes=true then true else full,h.go hall.size hx (q2.other f3 (fun y hy=>by simp at hy;subst hy;exact⟨h.sx,h.xc⟩)) (((h.hm.keep f1).fr f2 h.ownY).fr f3 fx) tk,fun y hy=>hy,fun y hy=> .inl hy,fun g hg=> .inl hg,hall, ?_, ?_⟩
  ·intro hfull;rw[hfull];split<;>rfl
  ·intro hf;cases o with
   |none=>exact hst.symm
   |some k'=>rw[hy]at hf;simp at hf
theorem fin_Y(h:RunAt Y w xb c k rs tv s t full)(o:Option PK){r:Int}{g cap:Nat}(f1:Fr [] w w1)(d:MdR Y w1 s' t' (o.getD k))(f2:Fr c.own w1 w5)(kk:KKt c Y k rs o r true w5)(hw:w'.ownsRow 0 28 1 (.slice (some ⟨g,0,none⟩) (rs.length+1) cap) (rs.length+1) (zZ rs++[.int .u64 r]))(hg:tv.ownBlock=some g∨w5.heap.size≤g)(f3:Fr (xb::tv.ownBlock.toList) w5 w')
 (hx:blk w' xb=some (.cells #[.pointer (some ⟨c.sb,0,none⟩),.pointer (some ⟨c.kb,0,none⟩),.slice (some ⟨g,0,none⟩) (rs.length+1) cap,.slice s'.a s'.n s'.cap,.slice t'.a t'.n t'.cap,.bool full] 42 (0,0)))
 (hst:stepK a k=o.getD k):StepR Y w xb c k a tv full (.returned (.bool true)) w':=by
 obtain⟨r1,r2,r3⟩:=run_own c xb tv
 have hall:Fr (runOwn c xb tv) w w':=((f1.mono (by simp)).same (f2.mono (fun x hx=> .inl (r1 x hx)))).same (f3.mono (fun x hx=> .inl (by
  rcases List.mem_cons.1 hx with rfl|hx
  ·exact r2
  ·exact r3 x (by simpa using hx))))
 have hs5:w.heap.size≤w5.heap.size:=Nat.le_trans f1.size f2.size
 obtain⟨k',rfl,q2⟩: ∃k',o=some k'∧Ks w5 w5 c Y k' (rs++[r]):=by
  rcases kk with⟨_,h⟩|⟨h,_⟩
  ·exact h
  ·cases h
 have hY5: ∀y,y∈g::Y→y∈Y∨w5.heap.size≤y:=fun y hy=>by
  rcases List.mem_cons.1 hy with rfl|hy
  ·rcases hg with h9|h9
   ·exact .inl (h.st _ h9)
   ·exact .inr h9
  ·exact .inl hy
 have hgl:=own_lt hw
 have hgc:g∉c.all∧g≠xb:=by
  rcases hg with h9|h9
  ·exact h.tc g h9
  ·exact⟨fun hc=>by have:=h.lt g (h.sub g hc);omega,fun hc=>by have:=h.lt xb h.sx;omega⟩
 have fx: ∀x,x∈xb::tv.ownBlock.toList→x∈Y∧x∉c.all:=fun x hx=>by
  rcases List.mem_cons.1 hx with rfl|hx
  ·exact⟨h.sx,h.xc⟩
  ·have hx':tv.ownBlock=some x:=by simpa using hx
   exact⟨h.st x hx',(h.tc x hx').1⟩
 refine⟨rfl,g::Y,k',rs++[r],_,s',t',full,⟨hx,(q2.blocks hY5).other f3 (fun y hy=>⟨List.mem_cons_of_mem _ (fx y hy).1,(fx y hy).2⟩),(((d.fr f2 h.ownY).blocks hY5).fr f3 (fun y hy=>List.mem_cons_of_mem _ (fx y hy).1)),⟨?_,fun hc=>by simp at hc⟩,h.cm,h.xc, ?_,fun y hy=>List.mem_cons_of_mem _ (h.sub y hy),List.mem_cons_of_mem _ h.sx, ?_, ?_⟩,fun y hy=>List.mem_cons_of_mem _ hy,fun y hy=> ?_, ?_,hall,id,fun _=>hst.symm⟩
 ·have e1:(rs++[r]).length=rs.length+1:=by simp
  have e2:zZ (rs++[r])=zZ rs++[.int .u64 r]:=by simp[zZ]
  rw[e1,e2];exact hw
 ·intro g' hg';have:g=g':=by simpa[Value.ownBlock]using hg'
  subst this;exact hgc
 ·intro g' hg';have:g=g':=by simpa[Value.ownBlock]using hg'
  subst this
  simp
 ·intro y hy;rcases List.mem_cons.1 hy with rfl|hy
  ·exact hgl
  ·exact Nat.lt_of_lt_of_le (h.lt y hy) hall.size
 ·rcases List.mem_cons.1 hy with rfl|hy
  ·rcases hg with h9|h9
   ·exact .inl (h.st _ h9)
   ·exact .inr (Nat.le_trans hs5 h9)
  ·exact .inl hy
 ·intro g' hg';have:g=g':=by simpa[Value.ownBlock]using hg'
  subst this;rcases hg with h9|h9
  ·exact .inl h9
  ·exact .inr (Nat.le_trans hs5 h9)
theorem step_capture(h:RunAt Y w xb c k rs tv s t full)(hk:a.kind=9):Calls Tryz.prog 8 #[.pointer (some ⟨xb,0,none⟩),.agg a.cells] w (StepR Y w xb c k a tv full):=by
 unfold AV.cells;rw[hk];have hsz:=h.szs;have hrl:=h.rsl;obtain⟨o,ho⟩: ∃o,o=capM a.n k:=⟨_,rfl⟩;have hst:stepK a k=o.getD k:=by unfold stepK;rw[hk,ho];simp
 refine(step_9 w xb c.kb _ tv s.a t.a s.n s.cap t.n t.cap full a.n a.m a.word a.deep a.sl.a a.sq.a a.sl.n a.sl.cap a.sq.n a.sq.cap a.p0 a.p1 h.hb (D:=fun na nn nc ma mn mc W=>MdR Y W ⟨na,nn,nc⟩ ⟨ma,mn,mc⟩ (o.getD k)) (KK:=KKt c Y k rs o) (R:=fun w'=>StepR Y w xb c k a tv full (.returned (.bool true)) w') c.own h.own rs.length (zZ rs) hrl h.tv0 h.tvx o.isSome ?_ ?_ ?_ ?_).mono ?_
 ·refine Lib.hid fun W hF=>(doc_capture W a.n (h.md hF) (h.ltw hF) hsz.fit hsz.tak).mono ?_
  rintro e w' ⟨s',t',rfl,hm,hF'⟩;rw[←ho]at hm;exact⟨_,_,_,_,_,_,by rw[ho],Lib.hid hm,Lib.hid hF'⟩
 ·refine Lib.hid fun W hF=>(ks_capture (h.ks hF) h.cm a.n).mono ?_
  rintro e w' (⟨rfl,hd⟩|⟨r,k',rfl,h45,q1,hd⟩)
  ·exact⟨45,false,rfl,Lib.hid ⟨.inr ⟨rfl,hd.base⟩,.inr ⟨rfl,rfl⟩⟩,Lib.hid hd.frw⟩
  ·rw[←ho]at q1;exact⟨r,true,rfl,Lib.hid ⟨.inl ⟨rfl,k',q1,hd.base⟩,.inl ⟨rfl,by rw[q1];rfl,h45⟩⟩,Lib.hid hd.frw⟩
 ·exact Lib.hid fun na ma nn nc mn mc r w1 w5 w' f1 d f2 kk f3 hx=>fin_N h o rfl f1 f2 kk f3 hx hst
 ·exact Lib.hid fun na ma nn nc mn mc r g cap w1 w5 w' f1 d f2 kk hy hw hg f3 hx=>fin_Y h o f1 d f2 kk hw hg f3 hx hst
 ·rintro e w' ⟨rfl,hR⟩;exact hR
theorem RunAt.told(h:RunAt Y w xb c k rs tv s t full)(n:Int):Hid (∀(W:World) (a3 a4:Option Addr) (n3 m3 n4 m4:Nat),Fr (xb::c.own) w W→blk W xb=some (.cells #[.pointer (some ⟨c.sb,0,none⟩),.pointer (some ⟨c.kb,0,none⟩),tv,.slice a3 n3 m3,.slice a4 n4 m4,.bool full] 42 (0,0))→Calls Tryz.prog 40 #[.pointer (some ⟨xb,0,none⟩),.int .i64 n] W fun e w'=>e=.returned (.int .u64 (toldL rs n))∧W=w'):=
 Lib.hid fun W a3 a4 n3 m3 n4 m4 hF hx=>told_c W xb _ _ tv a3 a4 n3 m3 n4 m4 full n rs (Lib.hid hx) (h.tkf hF (fun x hx=>by
  rcases List.mem_cons.1 hx with rfl|hx
  ·exact .inr rfl
  ·exact .inl (zm hx))) h.rsl
theorem step_resume(h:RunAt Y w xb c k rs tv s t full)(hk:a.kind=10):Calls Tryz.prog 8 #[.pointer (some ⟨xb,0,none⟩),.agg a.cells] w (StepR Y w xb c k a tv full):=by
 unfold AV.cells;rw[hk];have hsz:=h.szs;refine(step_10 w xb c.kb _ tv s.a t.a s.n s.cap t.n t.cap full a.n a.m a.word a.deep a.sl.a a.sq.a a.sl.n a.sl.cap a.sq.n a.sq.cap a.p0 a.p1 h.hb (D:=fun na nn nc ma mn mc W=>MdR Y W ⟨na,nn,nc⟩ ⟨ma,mn,mc⟩ (resM a.n k).1) (KK:=fun W=>Ks W W c Y (resM a.n k).1 rs) (R:=fun w'=>StepR Y w xb c k a tv full (.returned (.bool true)) w') c.own h.own (resM a.n k).2 (toldL rs a.n) (h.told a.n) ?_ ?_ ?_).mono ?_
 ·refine Lib.hid fun W hF=>(doc_resume W a.n (h.md hF) (h.ltw hF) hsz.fit hsz.tak hsz.ne).mono ?_
  rintro e w' ⟨s',t',rfl,hm,hF'⟩;exact⟨_,_,_,_,_,_,rfl,Lib.hid hm,Lib.hid hF'⟩
 ·refine Lib.hid fun W hF=>(ks_resume (h.hk.other hF (fun y hy=>by simp at hy;subst hy;exact⟨h.sx,h.xc⟩)) a.n).mono ?_
  rintro e w' ⟨rfl,hd⟩;exact⟨rfl,Lib.hid hd.base,Lib.hid hd.frw⟩
 ·refine Lib.hid fun na ma nn nc mn mc w1 w2 w' f1 d f2 hx kk f3=> ?_
  obtain⟨r1,r2,r3⟩:=run_own c xb tv;have fx: ∀x,x∈[xb]→x∈Y:=fun x hx=>by simp at hx;subst hx;exact h.sx
  have hall:Fr (runOwn c xb tv) w w':=((f1.mono (by simp)).same (f2.mono (fun x hx=> .inl (by simp at hx;subst hx;exact r2)))).same (f3.mono (fun x hx=> .inl (r1 x hx)));have tk:TkAt w' 0 tv rs:=((h.tkf (f1.mono (T:=[xb]) (by simp)|>.same f2) (fun x hx=> .inr (by simpa using hx))).fr f3 (fun x hx hc=>(h.tc x hx).1 (zm hc)));exact⟨rfl,Y,_,rs,tv,⟨na,nn,nc⟩,⟨ma,mn,mc⟩,full,h.go hall.size (f3.at hx (fun hc=>h.xc (zm hc))) kk ((d.fr f2 fx).fr f3 h.ownY) tk,fun y hy=>hy,fun y hy=> .inl hy,fun g hg=> .inl hg,hall,id,fun _=>by unfold stepK;rw[hk];simp⟩
 ·rintro e w' ⟨rfl,hR⟩;exact hR
theorem cln_yes(k:PK)(n:Int):((clnM n k).2==0)=(clnM n k).1.isSome:=by
 unfold clnM;cases tookM k n with
 |none=>rfl
 |some q=>cases q<;>rfl
theorem step_clone(h:RunAt Y w xb c k rs tv s t full)(hk:a.kind=11):Calls Tryz.prog 8 #[.pointer (some ⟨xb,0,none⟩),.agg a.cells] w (StepR Y w xb c k a tv full):=by
 unfold AV.cells;rw[hk];have hsz:=h.szs;have hrl:=h.rsl;have hcy:=cln_yes k a.n;obtain⟨o,ho⟩: ∃o,o=(clnM a.n k).1:=⟨_,rfl⟩;rw[←ho]at hcy;have hst:stepK a k=o.getD k:=by unfold stepK;rw[hk,ho];simp
 refine(step_11 w xb c.kb _ tv s.a t.a s.n s.cap t.n t.cap full a.n a.m a.word a.deep a.sl.a a.sq.a a.sl.n a.sl.cap a.sq.n a.sq.cap a.p0 a.p1 h.hb (D:=fun na nn nc ma mn mc W=>MdR Y W ⟨na,nn,nc⟩ ⟨ma,mn,mc⟩ (o.getD k)) (KK:=KKt c Y k rs o) (R:=fun w'=>StepR Y w xb c k a tv full (.returned (.bool true)) w') c.own h.own rs.length (zZ rs) hrl h.tv0 h.tvx (clnM a.n k).2 o.isSome hcy (toldL rs a.n) (h.told a.n) ?_ ?_ ?_ ?_).mono ?_
 ·refine Lib.hid fun W hF=>(doc_clone W a.n (h.md hF) (h.ltw hF) hsz.tak).mono ?_
  rintro e w' ⟨t',rfl,hm,hF'⟩;rw[←ho]at hm;exact⟨_,_,_,_,_,_,rfl,Lib.hid hm,Lib.hid hF'⟩
 ·refine Lib.hid fun W hF=>(ks_clone (h.ks hF) a.n).mono ?_
  rintro e w' ⟨r,ok,rfl,hd⟩;rcases hd with⟨rfl,hd⟩|⟨rfl,q0,k',q1,hd⟩
  ·exact⟨r,false,rfl,Lib.hid ⟨.inr ⟨rfl,hd.base⟩,.inr rfl⟩,Lib.hid hd.frw⟩
  ·rw[←ho]at q1;exact⟨r,true,rfl,Lib.hid ⟨.inl ⟨rfl,k',q1,hd.base⟩,.inl ⟨rfl,by rw[q1];rfl⟩⟩,Lib.hid hd.frw⟩
 ·exact Lib.hid fun na ma nn nc mn mc r w1 w5 w' f1 d f2 kk f3 hx=>fin_N h o rfl f1 f2 kk f3 hx hst
 ·exact Lib.hid fun na ma nn nc mn mc r g cap w1 w5 w' f1 d f2 kk hy hw hg f3 hx=>fin_Y h o f1 d f2 kk hw hg f3 hx hst
 ·rintro e w' ⟨rfl,hR⟩;exact hR
theorem step_collect(h:RunAt Y w xb c k rs tv s t full)(hk:a.kind=12):Calls Tryz.prog 8 #[.pointer (some ⟨xb,0,none⟩),.agg a.cells] w (StepR Y w xb c k a tv full):=by
 unfold AV.cells;rw[hk]
 obtain⟨ra,rn,rc,htv⟩: ∃ra rn rc,tv=.slice ra rn rc:=by
  rcases h.tk.form with⟨_,h2⟩|⟨g,cap,h2,_⟩
  ·exact⟨_,_,_,h2⟩
  ·exact⟨_,_,_,h2⟩
 have hb:=h.hb;rw[htv]at hb;obtain⟨A,M,top,last,hS,_⟩:=h.hk.ex
 have hBY: ∀x,x∈c.own++tv.ownBlock.toList→x∈Y:=fun x hx=>by
  rcases List.mem_append.1 hx with hx|hx
  ·exact h.ownY x hx
  ·exact h.st x (by simpa using hx)
 refine(step_12 w xb c.kb _ ra rn rc c.rb s.a t.a s.n s.cap t.n t.cap full a.n a.m a.word a.deep a.sl.a a.sq.a a.sl.n a.sl.cap a.sq.n a.sq.cap a.p0 a.p1 hb (KK:=fun W=> ∃rs',Ks W W c Y k rs'∧TkAt W 0 tv rs') (c.own++tv.ownBlock.toList) ?_ (.pointer (some ⟨c.hb,0,none⟩)) ?_ ?_ ?_).mono ?_
 ·refine Lib.hid ⟨fun hc=> ?_,fun x hx=>h.lt x (hBY x hx)⟩;rcases List.mem_append.1 hc with hc|hc
  ·exact h.xc (zm hc)
  ·exact(h.tc xb (by simpa using hc)).2 rfl
 ·exact Lib.hid fun W hF=>vheap_c (hS.keep hF)
 ·exact Lib.hid fun W hF=>kroots_c (hS.keep hF)
 ·refine Lib.hid fun W g hF hg hgb=> ?_
  rw[←htv]at hgb;refine(ks_collect (B:=0) (h.ks hF) h.cm (h.tk.fr hF (by simp)) (fun x hx=>⟨(h.tc x hx).1,h.st x hx⟩) h.rsl g hgb (fun hc=>by have:=h.lt g (h.sub g hc);omega) (fun hc=>by have:=h.lt g (h.st g hc);omega) a.p0 a.p1).mono ?_;rintro e w' ⟨v,rs',rfl,_,q2,q3,q4⟩;exact⟨v,rfl,Lib.hid ⟨rs',q2,q3⟩,Lib.hid q4⟩
 ·rintro e w' ⟨rfl,w5,f1,⟨rs',q2,q3⟩,f2⟩;obtain⟨r1,r2,r3⟩:=run_own c xb tv
  have hall:Fr (runOwn c xb tv) w w':=(f1.mono (by simp)).same (f2.mono (fun x hx=> .inl (by
   rcases List.mem_append.1 hx with hx|hx
   ·exact r1 x hx
   ·exact r3 x (by simpa using hx))))
  have hnx:xb∉c.own++tv.ownBlock.toList:=fun hc=>by
   rcases List.mem_append.1 hc with hc|hc
   ·exact h.xc (zm hc)
   ·exact(h.tc xb (by simpa using hc)).2 rfl
  exact⟨rfl,Y,k,rs',tv,s,t,full,h.go hall.size (f2.at (f1.at h.hx (by simp)) hnx) q2 ((h.hm.keep f1).fr f2 hBY) q3,fun y hy=>hy,fun y hy=> .inl hy,fun g hg=> .inl hg,hall,id,fun _=>by unfold stepK;rw[hk];simp⟩
theorem step_c(h:RunAt Y w xb c k rs tv s t full)(ha:a.Ok Y w):Calls Tryz.prog 8 #[.pointer (some ⟨xb,0,none⟩),.agg a.cells] w (StepR Y w xb c k a tv full):=by
 by_cases h0:a.kind<0∨12<a.kind
 ·exact step_nothing h h0
 ·by_cases k0:a.kind=0
  ·exact step_push h ha k0
  by_cases k1:a.kind=1
  ·exact step_pop h ha k1
  by_cases k2:a.kind=2
  ·exact step_setpc h k2
  by_cases k3:a.kind=3
  ·exact step_setslot h ha k3
  by_cases k4:a.kind=4
  ·exact step_put h ha k4
  by_cases k5:a.kind=5
  ·exact step_take h k5
  by_cases k6:a.kind=6
  ·exact step_enter h ha k6
  by_cases k7:a.kind=7
  ·exact step_leave h k7
  by_cases k8:a.kind=8
  ·exact step_find h ha k8
  by_cases k9:a.kind=9
  ·exact step_capture h k9
  by_cases k10:a.kind=10
  ·exact step_resume h k10
  by_cases k11:a.kind=11
  ·exact step_clone h k11
  by_cases k12:a.kind=12
  ·exact step_collect h k12
  exfalso;omega
end
end Go.Proofs.YtghkahcogphomaaGreat
