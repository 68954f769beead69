/- Fibers: a part of the walk. No condition. -/
import Derived.Test.YtghkahcogphomaaGreatQk43
set_option linter.all false
namespace Go.Proofs.YtghkahcogphomaaGreat
section
open Go.ChangeShapes Go.WideShapes Go.RowKit
variable{w w':World}
theorem wpList_appV{ops:Array Oper}{rest:List Oper}{o:Oper}{a:Act}{Q:Exit→Act→World→Prop}(w:World)(hgd:o.guard=none)(s x:Operand)(t:TypeId)
 (ho:o.op=.call { callee:=.builtin .append,args:= #[s,x],argTypes:= #[t,t]})
 (base:Nat) (e:TypeId) (i:TypeInfo) (z:Value) (size bytes:Nat) (ht:Tryz.prog.underlying t=some (.slice e)) (hi:Tryz.prog.info? e=some i) (hz:i.zero=some z)
 (hsize:i.size=size) (hby:i.bytes=bytes) (hzs:z.cells.size=size) (hsz:0<size)
 (v:Value) (n:Nat) (xs:List Value) (hs:a.eval s=v) (hown:w.ownsRow base e size v n xs)
 (ad:Addr) (m c:Nat) (news:List Value) (hx:a.eval x=.slice (some ad) m c) (hl:news.length=m*size) (hnews: ∀j u,news[j]? =some u→w.cell? (ad.add j)=some u) (h1: ∀u∈news,u.oneCell'=true)
 (hm:0<m) (h63:n+m≤maxLen) (hbytes:(n+m)*bytes≤140737488355328) (hbase:base≤w.heap.size)
 (h: ∀g cap w',w'.ownsRow base e size (.slice (some ⟨g,0,none⟩) (n+m) cap) (n+m) (xs++news)→Fr v.ownBlock.toList w w'→(v.ownBlock=some g∨w.heap.size≤g)→wpList Tryz.prog ops Q rest (a.put o.dst (.slice (some ⟨g,0,none⟩) (n+m) cap)) w'):wpList Tryz.prog ops Q (o::rest) a w:=
 wpList_append_lies w hgd s x t ho base e i z size bytes ht hi hz hsize hby hzs hsz v n xs hs hown ad m c news hx hl hnews h1 hm h63 hbytes hbase _ rfl
  (fun g cap w' h2 h3 h4 _=>h g cap w' h2 (grown_fr h3) (h4.imp id (fun h=>by omega)))
set_option maxRecDepth 100000 in
theorem told_c(w:World)(xb:Nat)(v0 v1 tv:Value)(fa ta:Option Addr)(fn fc tn tc:Nat)(full:Bool)(n:Int)(rs:List Int)(hb:Hid (blk w xb=some (.cells #[v0,v1,tv,.slice fa fn fc,.slice ta tn tc,.bool full] 42 (0,0))))(hT:TkAt w 0 tv rs)(hl:rs.length≤1000000):
 Calls Tryz.prog 40 #[.pointer (some ⟨xb,0,none⟩),.int .i64 n] w fun e w'=>e=.returned (.int .u64 (toldL rs n))∧w=w':=by
 have HT:=Lib.hid hT;have x2:=zA hb.out (i:=2) rfl;by_cases h0:n<0
 ·have b0:decide (n<0)=true:=by simpa using h0
  have HR:Hid (toldL rs n=8):=Lib.hid (by unfold toldL;rw[if_pos (.inl h0)]);clear hT;go_enter Tryz.func40,Tryz.ntmps40;go_wp2;go_ret;rw[HR.out];exact⟨rfl,rfl⟩
 have b0:decide (n<0)=false:=by simpa using h0
 obtain⟨N,hN⟩: ∃N,N=rs.length:=⟨_,rfl⟩
 obtain⟨ra,rc,htv⟩: ∃ra rc,tv=.slice ra N rc:=by
  rcases hT.form with⟨h1,h2⟩|⟨g,cap,h2,_⟩
  ·exact⟨none,0,by rw[h2,hN,h1];rfl⟩
  ·exact⟨_,cap,by rw[hN];exact h2⟩
 have HN:=Lib.hid hN;subst htv;by_cases h1:(N:Int)≤n
 ·have b1:decide ((N:Int)≤n)=true:=by simpa using h1
  have HR:Hid (toldL rs n=8):=Lib.hid (by unfold toldL;rw[if_pos (.inr (by rw[←hN];exact h1))]);clear hT hN;go_enter Tryz.func40,Tryz.ntmps40;go_wp2;go_ret;rw[HR.out];exact⟨rfl,rfl⟩
 ·have b1:decide ((N:Int)≤n)=false:=by simpa using h1
  obtain⟨i,rfl⟩: ∃i:Nat,n=i:=⟨n.toNat,by omega⟩;have hi:i<N:=by omega
  obtain⟨r,hr⟩: ∃r,rs[i]? =some r:=⟨rs[i]'(by omega),by simp⟩;have HR:Hid (toldL rs (i:Int)=r):=Lib.hid (by unfold toldL;rw[if_neg (by omega),Int.toNat_natCast,hr];rfl)
  obtain⟨g,hra,d0⟩: ∃g,ra=some ⟨g,0,none⟩∧w.cell? ⟨g,i,none⟩=some (.int .u64 r):=by
   rcases hT.form with⟨h1,h2⟩|⟨g,cap,h2,_⟩
   ·rw[h1]at hN;simp at hN;omega
   ·injection h2 with q1 q2 q3
    subst q1 q3;have:=hT.1;rw[←hN]at this;exact⟨g,rfl,zX this (by unfold zZ;rw[List.getElem?_map,hr];rfl)⟩
  subst hra;have hcp:N≤rc:=by have:=hT.1;rw[←hN]at this;exact(ZC this).1
  clear hT hN hr;go_enter Tryz.func40,Tryz.ntmps40;go_wp2;go_ret;rw[HR.out];exact⟨rfl,rfl⟩
set_option maxRecDepth 100000 in
set_option maxHeartbeats 4000000 in
theorem step_9(w:World)(xb kb:Nat)(v0 tv:Value)(fa ta:Option Addr)(fn fc tn tc:Nat)(full:Bool)(n m word:Int)(deep:Bool)(la qa:Option Addr)(ln lc qn qc:Nat)(p0 p1:Int)(hb:Hid (blk w xb=some (.cells #[v0,.pointer (some ⟨kb,0,none⟩),tv,.slice fa fn fc,.slice ta tn tc,.bool full] 42 (0,0)))){D:Option Addr→Nat→Nat→Option Addr→Nat→Nat→World→Prop}{KK:Int→Bool→World→Prop}{R:World→Prop}(B:List Nat)(HB:Hid (xb∉B∧∀x,x∈B→x<w.heap.size))(N:Nat)(xs:List Value)(hN:N≤1000000)(TV:Hid (∀W,Fr B w W→W.ownsRow 0 28 1 tv N xs))(HTX:Hid (tv.ownBlock≠some xb))(yes:Bool)(CD:Hid (∀W,Fr [] w W→Calls Tryz.prog 37 #[.agg #[.slice fa fn fc,.slice ta tn tc],.int .i64 n] W fun e w'=> ∃(na ma:Option Addr) (nn nc mn mc:Nat),e=.returned (.tuple #[.agg #[.slice na nn nc,.slice ma mn mc],.bool yes])∧Hid (D na nn nc ma mn mc w')∧Hid (Fr [] W w')))(CK:Hid (∀W,Fr [] w W→Calls Tryz.prog 16 #[.pointer (some ⟨kb,0,none⟩),.int .i64 n] W fun e w'=> ∃(r:Int) (ok:Bool),e=.returned (.tuple #[.int .u64 r,.bool ok])∧Hid (KK r ok w'∧((ok=true∧yes=true∧r≠45)∨(ok=false∧r=45)))∧Hid (Fr B W w')))(NO:Hid (∀(na ma:Option Addr) (nn nc mn mc:Nat) (r:Int) (w1 w5 w':World),Fr [] w w1→D na nn nc ma mn mc w1→Fr B w1 w5→KK r false w5→Fr [xb] w5 w'→blk w' xb=some (.cells #[v0,.pointer (some ⟨kb,0,none⟩),tv,.slice fa fn fc,.slice ta tn tc,.bool (if yes=true then true else full)] 42 (0,0))→R w'))(YES:Hid (∀(na ma:Option Addr) (nn nc mn mc:Nat) (r:Int) (g cap:Nat) (w1 w5 w':World),Fr [] w w1→D na nn nc ma mn mc w1→Fr B w1 w5→KK r true w5→yes=true→w'.ownsRow 0 28 1 (.slice (some ⟨g,0,none⟩) (N+1) cap) (N+1) (xs++[.int .u64 r])→(tv.ownBlock=some g∨w5.heap.size≤g)→Fr (xb::tv.ownBlock.toList) w5 w'→blk w' xb=some (.cells #[v0,.pointer (some ⟨kb,0,none⟩),.slice (some ⟨g,0,none⟩) (N+1) cap,.slice na nn nc,.slice ma mn mc,.bool full] 42 (0,0))→R w')):
 Calls Tryz.prog 8 #[.pointer (some ⟨xb,0,none⟩),.agg #[.int .i64 9,.int .i64 n,.int .i64 m,.int .u64 word,.bool deep,.slice la ln lc,.slice qa qn qc,.int .i64 p0,.int .i64 p1]] w fun e w'=>e=.returned (.bool true)∧R w':=by
 obtain⟨i1,hii1,hz01,hz11,hz21⟩:=info_parts info_wd;have IW:=Lib.hid hii1;have Y0:=Lib.hid hz01;have Y1:=Lib.hid hz11;have Y2:=Lib.hid hz21;clear hii1 hz01 hz11 hz21;obtain⟨W2,hW2⟩: ∃W,W=w.alloc (.cells #[.int .i64 9,.int .i64 n,.int .i64 m,.int .u64 word,.bool deep,.slice la ln lc,.slice qa qn qc,.int .i64 p0,.int .i64 p1] 33):=⟨_,rfl⟩;obtain⟨ab,hab⟩: ∃ab,ab=w.heap.size:=⟨_,rfl⟩;have FW2:Hid (Fr [] w W2):=Lib.hid (by rw[hW2];exact(Fr.refl _ _).alloc _);have PA2:Hid (blk W2 ab=some (.cells #[.int .i64 9,.int .i64 n,.int .i64 m,.int .u64 word,.bool deep,.slice la ln lc,.slice qa qn qc,.int .i64 p0,.int .i64 p1] 33 (0,0))):=Lib.hid (by rw[hW2,hab,zB,if_pos rfl]);have PX2:=Lib.hid (FW2.out.at hb.out (by simp));have HAB:Hid (w.heap.size≤ab):=Lib.hid (by omega);go_enter Tryz.func8,Tryz.ntmps8;go_upto_region 1 with fail
 rw[←hW2]
 try rw[←hab]
 clear hW2 hab;have x1:=zA PX2.out (i:=1) rfl;have x3:=zA PX2.out (i:=3) rfl;have x4:=zA PX2.out (i:=4) rfl;have hxl:=zF PX2.out;have hxn:xb≠W2.heap.size:=by omega
 go_region
 obtain⟨W3,hW3⟩: ∃W,W=(W2.alloc (.cells #[.slice fa fn fc,.slice ta tn tc] 40)).drew:=⟨_,rfl⟩;obtain⟨mb,hmb⟩: ∃k,k=W2.heap.size:=⟨_,rfl⟩;have F3:Hid (Fr [] W2 W3):=Lib.hid (by rw[hW3];exact((Fr.refl _ _).alloc _).drew);have PM3:Hid (blk W3 mb=some (.cells #[.slice fa fn fc,.slice ta tn tc] 40 (0,0))):=Lib.hid (by rw[hW3,hmb];show blk (W2.alloc _) _=_;rw[zB,if_pos rfl]);have PA3:=Lib.hid (F3.out.at PA2.out (by simp));have PX3:=Lib.hid (F3.out.at PX2.out (by simp));have H3:Hid (Fr [] w W3):=Lib.hid (FW2.out.trans F3.out (by simp));have HMB:Hid (w.heap.size≤mb):=Lib.hid (by rw[hmb];exact FW2.out.size);rw[←hW3]
 try rw[←hmb]
 clear hW3 hmb x1 x3 x4 hxl hxn FW2 F3 PA2 PX2;have a0:=zA PA3.out (i:=0) rfl;have a1:=zA PA3.out (i:=1) rfl;have m0:=zA PM3.out (i:=0) rfl;have m1:=zA PM3.out (i:=1) rfl;have HXB:Hid (xb<w.heap.size):=Lib.hid (zF hb.out);clear hb;go_upto_region 36 with(go_at_call 37;refine(CD.out _ H3.out).mono ?_;rintro e w4 ⟨na,ma,nn,nc,mn,mc,rfl,hD,hF4⟩)
 obtain⟨W5,hW5⟩: ∃W,W=w4.alloc (.cells #[.slice na nn nc,.slice ma mn mc] 40):=⟨_,rfl⟩;obtain⟨nb,hnb⟩: ∃k,k=w4.heap.size:=⟨_,rfl⟩;have F5:Hid (Fr [] w4 W5):=Lib.hid (by rw[hW5];exact(Fr.refl _ _).alloc _);have PN5:Hid (blk W5 nb=some (.cells #[.slice na nn nc,.slice ma mn mc] 40 (0,0))):=Lib.hid (by rw[hW5,hnb,zB,if_pos rfl]);have HNB:Hid (w.heap.size≤nb):=Lib.hid (by rw[hnb];exact Nat.le_trans H3.out.size hF4.out.size);have H4:Hid (Fr [] w w4):=Lib.hid (H3.out.trans hF4.out (by simp));have H5:Hid (Fr [] w W5):=Lib.hid (H4.out.trans F5.out (by simp));rw[←hW5]
 try rw[←hnb]
 clear hW5 hnb;have PX5:=Lib.hid (F5.out.at (hF4.out.at PX3.out (by simp)) (by simp));have PA5:=Lib.hid (F5.out.at (hF4.out.at PA3.out (by simp)) (by simp));clear a0 a1 m0 m1;have a0:=zA PA5.out (i:=0) rfl;have a1:=zA PA5.out (i:=1) rfl;go_upto_region 37 with(go_at_call 16;refine(CK.out _ H5.out).mono ?_;rintro e w6 ⟨r,ok,rfl,hK,hF6⟩)
 have PX6:=Lib.hid (hF6.out.at PX5.out HB.out.1);have PN6:=Lib.hid (hF6.out.at PN5.out (fun hc=>by have:=HB.out.2 _ hc;have:=HNB.out;omega));clear a0 a1;cases ok with
 |false=>
  have hr:r=45:=by rcases hK.out.2 with⟨h,_⟩|⟨_,h⟩;(· cases h);exact h
  subst hr;have d0:=zA PN6.out (i:=0) rfl;have d1:=zA PN6.out (i:=1) rfl;go_wp2_with (first|(go_at_call 38;refine(none20_c _).mono ?_;rintro e w' ⟨rfl,rfl⟩)|(go_at_call 22;refine(end_c _ xb v0 _ tv fa ta na ma fn fc tn tc nn nc mn mc full false yes true PX6 (by cases yes<;>simp)).mono ?_;rintro e w7 ⟨rfl,hR,hF7⟩;have R7:=Lib.hid hR;have K7:=Lib.hid hF7;clear hR hF7));go_ret;refine⟨rfl,NO.out na ma nn nc mn mc 45 w4 w6 w7 H4.out hD.out ((F5.out.mono (by simp)).same hF6.out) hK.out.1 K7.out ?_⟩;rw[R7.out]
  simp
 |true=>
  obtain⟨hy,hr⟩:yes=true∧r≠45:=by rcases hK.out.2 with⟨_,h1,h2⟩|⟨h,_⟩;(· exact⟨h1,h2⟩);cases h
  subst hy;have b0:(r !=45)=true:=by simpa using hr
  have HRN:=Lib.hid hr;clear hr;have hxT:=HTX.out;have TV6:=Lib.hid (TV.out _ ((H5.out.mono (by simp)).same hF6.out));have hTl:Hid (∀y,tv.ownBlock=some y→y<w.heap.size):=Lib.hid (fun y hy=>((TV.out _ (Fr.refl _ _)).lt y hy).2);have x2:=zA PX6.out (i:=2) rfl;have NWZ:=Lib.hid (World.news_of_block (w:=w6.alloc (.cells #[.int .u64 r] 28)) (B:=w6.heap.size) (show blk (World.alloc _ _) _=_ from by rw[zB,if_pos rfl]));have FZ:Hid (Fr [] w6 (w6.alloc (.cells #[.int .u64 r] 28))):=Lib.hid ((Fr.refl _ _).alloc _);have TV7:=Lib.hid (zL TV6.out FZ.out (by simp));have hxl:=zF PX6.out;have hxn6:xb≠w6.heap.size:=by omega
  clear hxT;go_upto_region 39 with(at_builtin;refine wpList_appV _ rfl _ _ _ rfl 0 28 i1 (.int .u64 0) 1 8 Tryz.underlying29 IW.out Y0.out Y1.out Y2.out rfl (by decide) tv N xs rfl TV7.out ⟨w6.heap.size,0,none⟩ 1 1 [.int .u64 r] rfl rfl NWZ.out (by simp[Value.oneCell']) (by decide) (by unfold maxLen;omega) (by omega) (Nat.zero_le _) ?_;intro g cap w8 own8 fr8 at8;have OW8:=Lib.hid own8;have F8:Hid (Fr tv.ownBlock.toList w6 w8):=Lib.hid ((FZ.out.mono (by simp)).same fr8);have A8:=Lib.hid at8;clear own8 fr8 at8;have PX8:=Lib.hid (F8.out.at PX6.out (by simp only[Option.mem_toList];exact HTX.out));have x2:=zA PX8.out (i:=2) rfl;have f2:=zE PX8.out (i:=2))
  obtain⟨W9,hW9⟩: ∃W,W=w8.setCell ⟨xb,2,none⟩ (.slice (some ⟨g,0,none⟩) (N+1) cap):=⟨_,rfl⟩;rw[←hW9];have F9:Hid (Fr [xb] w8 W9):=Lib.hid (by rw[hW9];exact(Fr.refl [xb] w8).setCell (.inl (by simp)) _)
  have hgx:Hid (g≠xb):=Lib.hid (by
   rcases A8.out with h|h
   ·intro hc;exact HTX.out (by rw[←hc];exact h)
   ·have h9:(w6.alloc (.cells #[.int .u64 r] 28)).heap.size≤g:=h;rw[zC]at h9;omega)
  have OW9:=Lib.hid (zL OW8.out F9.out (by
   intro q hq;have:g=q:=by simpa[Value.ownBlock]using hq
   subst this
   simp;exact hgx.out))
  have PX9:Hid (blk W9 xb=some (.cells #[v0,.pointer (some ⟨kb,0,none⟩),.slice (some ⟨g,0,none⟩) (N+1) cap,.slice fa fn fc,.slice ta tn tc,.bool full] 42 (0,0))):=Lib.hid (by rw[hW9,zD,if_pos rfl,PX8.out];rfl);have PN9:=Lib.hid (F9.out.at (F8.out.at PN6.out (by simp only[Option.mem_toList];intro hc;have:=hTl.out _ hc;have:=HNB.out;omega)) (by simp;have:=HXB.out;have:=HNB.out;omega))
  have A9:Hid (tv.ownBlock=some g∨w6.heap.size≤g):=Lib.hid (by
   rcases A8.out with h|h
   ·exact .inl h
   ·right;have h9:(w6.alloc (.cells #[.int .u64 r] 28)).heap.size≤g:=h;rw[zC]at h9;omega)
  clear hW9 x2 f2 NWZ TV7 TV6 FZ hxl hxn6 OW8 PX8 A8;have d0:=zA PN9.out (i:=0) rfl;have d1:=zA PN9.out (i:=1) rfl;go_wp2_with (first|(go_at_call 38;refine(none20_c _).mono ?_;rintro e w' ⟨rfl,rfl⟩)|(go_at_call 22;refine(end_c _ xb v0 _ _ fa ta na ma fn fc tn tc nn nc mn mc full true true true PX9 (.inl ⟨rfl,rfl⟩)).mono ?_;rintro e w7 ⟨rfl,hR,hF7⟩;have R7:=Lib.hid hR;have K7:=Lib.hid hF7;clear hR hF7));go_ret;refine⟨rfl,YES.out na ma nn nc mn mc r g cap w4 w6 w7 H4.out hD.out ((F5.out.mono (by simp)).same hF6.out) hK.out.1 (by first|rfl|trivial) (zL OW9.out K7.out ?_) A9.out ?_ ?_⟩
  ·intro q hq;have:g=q:=by simpa[Value.ownBlock]using hq
   subst this
   simp;exact hgx.out
  ·exact((F8.out.mono (fun x hx=> .inl (List.mem_cons_of_mem _ hx))).same (F9.out.mono (fun x hx=> .inl (by simp at hx;simp[hx])))).same (K7.out.mono (fun x hx=> .inl (by simp at hx;simp[hx])))
  ·rw[R7.out]
   simp
set_option maxRecDepth 100000 in
set_option maxHeartbeats 4000000 in
theorem step_10(w:World)(xb kb:Nat)(v0 tv:Value)(fa ta:Option Addr)(fn fc tn tc:Nat)(full:Bool)(n m word:Int)(deep:Bool)(la qa:Option Addr)(ln lc qn qc:Nat)(p0 p1:Int)(hb:Hid (blk w xb=some (.cells #[v0,.pointer (some ⟨kb,0,none⟩),tv,.slice fa fn fc,.slice ta tn tc,.bool full] 42 (0,0)))){D:Option Addr→Nat→Nat→Option Addr→Nat→Nat→World→Prop}{KK R:World→Prop}(B:List Nat)(HB:Hid (xb∉B∧∀x,x∈B→x<w.heap.size))(er:Int)(rw:Int)(CT:Hid (∀(W:World) (a3 a4:Option Addr) (n3 m3 n4 m4:Nat),Fr (xb::B) w W→blk W xb=some (.cells #[v0,.pointer (some ⟨kb,0,none⟩),tv,.slice a3 n3 m3,.slice a4 n4 m4,.bool full] 42 (0,0))→Calls Tryz.prog 40 #[.pointer (some ⟨xb,0,none⟩),.int .i64 n] W fun e w'=>e=.returned (.int .u64 rw)∧W=w'))(CD:Hid (∀W,Fr [] w W→Calls Tryz.prog 39 #[.agg #[.slice fa fn fc,.slice ta tn tc],.int .i64 n] W fun e w'=> ∃(na ma:Option Addr) (nn nc mn mc:Nat),e=.returned (.tuple #[.agg #[.slice na nn nc,.slice ma mn mc],.int .i64 er])∧Hid (D na nn nc ma mn mc w')∧Hid (Fr [] W w')))(CK:Hid (∀W,Fr [xb] w W→Calls Tryz.prog 18 #[.pointer (some ⟨kb,0,none⟩),.int .u64 rw] W fun e w'=>e=.returned (.int .i64 er)∧Hid (KK w')∧Hid (Fr B W w')))(RR:Hid (∀(na ma:Option Addr) (nn nc mn mc:Nat) (w1 w2 w':World),Fr [] w w1→D na nn nc ma mn mc w1→Fr [xb] w1 w2→blk w2 xb=some (.cells #[v0,.pointer (some ⟨kb,0,none⟩),tv,.slice na nn nc,.slice ma mn mc,.bool full] 42 (0,0))→KK w'→Fr B w2 w'→R w')):
 Calls Tryz.prog 8 #[.pointer (some ⟨xb,0,none⟩),.agg #[.int .i64 10,.int .i64 n,.int .i64 m,.int .u64 word,.bool deep,.slice la ln lc,.slice qa qn qc,.int .i64 p0,.int .i64 p1]] w fun e w'=>e=.returned (.bool true)∧R w':=by
 obtain⟨W2,hW2⟩: ∃W,W=w.alloc (.cells #[.int .i64 10,.int .i64 n,.int .i64 m,.int .u64 word,.bool deep,.slice la ln lc,.slice qa qn qc,.int .i64 p0,.int .i64 p1] 33):=⟨_,rfl⟩;obtain⟨ab,hab⟩: ∃ab,ab=w.heap.size:=⟨_,rfl⟩;have FW2:Hid (Fr [] w W2):=Lib.hid (by rw[hW2];exact(Fr.refl _ _).alloc _);have PA2:Hid (blk W2 ab=some (.cells #[.int .i64 10,.int .i64 n,.int .i64 m,.int .u64 word,.bool deep,.slice la ln lc,.slice qa qn qc,.int .i64 p0,.int .i64 p1] 33 (0,0))):=Lib.hid (by rw[hW2,hab,zB,if_pos rfl]);have PX2:=Lib.hid (FW2.out.at hb.out (by simp));have HAB:Hid (w.heap.size≤ab):=Lib.hid (by omega);go_enter Tryz.func8,Tryz.ntmps8;go_upto_region 1 with fail
 rw[←hW2]
 try rw[←hab]
 clear hW2 hab;have x1:=zA PX2.out (i:=1) rfl;have x3:=zA PX2.out (i:=3) rfl;have x4:=zA PX2.out (i:=4) rfl;have hxl:=zF PX2.out;have hxn:xb≠W2.heap.size:=by omega
 go_region
 obtain⟨W3,hW3⟩: ∃W,W=(W2.alloc (.cells #[.slice fa fn fc,.slice ta tn tc] 40)).drew:=⟨_,rfl⟩;obtain⟨mb,hmb⟩: ∃k,k=W2.heap.size:=⟨_,rfl⟩;have F3:Hid (Fr [] W2 W3):=Lib.hid (by rw[hW3];exact((Fr.refl _ _).alloc _).drew);have PM3:Hid (blk W3 mb=some (.cells #[.slice fa fn fc,.slice ta tn tc] 40 (0,0))):=Lib.hid (by rw[hW3,hmb];show blk (W2.alloc _) _=_;rw[zB,if_pos rfl]);have PA3:=Lib.hid (F3.out.at PA2.out (by simp));have PX3:=Lib.hid (F3.out.at PX2.out (by simp));have H3:Hid (Fr [] w W3):=Lib.hid (FW2.out.trans F3.out (by simp));have HMB:Hid (w.heap.size≤mb):=Lib.hid (by rw[hmb];exact FW2.out.size);rw[←hW3]
 try rw[←hmb]
 clear hW3 hmb x1 x3 x4 hxl hxn FW2 F3 PA2 PX2;have a0:=zA PA3.out (i:=0) rfl;have a1:=zA PA3.out (i:=1) rfl;have m0:=zA PM3.out (i:=0) rfl;have m1:=zA PM3.out (i:=1) rfl;have HXB:Hid (xb<w.heap.size):=Lib.hid (zF hb.out);clear hb;go_upto_region 42 with(go_at_call 39;refine(CD.out _ H3.out).mono ?_;rintro e w4 ⟨na,ma,nn,nc,mn,mc,rfl,hD,hF4⟩)
 obtain⟨W5,hW5⟩: ∃W,W=w4.alloc (.cells #[.slice na nn nc,.slice ma mn mc] 40):=⟨_,rfl⟩;obtain⟨nb,hnb⟩: ∃k,k=w4.heap.size:=⟨_,rfl⟩;have F5:Hid (Fr [] w4 W5):=Lib.hid (by rw[hW5];exact(Fr.refl _ _).alloc _);have PN5:Hid (blk W5 nb=some (.cells #[.slice na nn nc,.slice ma mn mc] 40 (0,0))):=Lib.hid (by rw[hW5,hnb,zB,if_pos rfl]);have HNB:Hid (w.heap.size≤nb):=Lib.hid (by rw[hnb];exact Nat.le_trans H3.out.size hF4.out.size);have H4:Hid (Fr [] w w4):=Lib.hid (H3.out.trans hF4.out (by simp));have H5:Hid (Fr [] w W5):=Lib.hid (H4.out.trans F5.out (by simp));rw[←hW5]
 try rw[←hnb]
 clear hW5 hnb;have PX5:=Lib.hid (F5.out.at (hF4.out.at PX3.out (by simp)) (by simp));have PA5:=Lib.hid (F5.out.at (hF4.out.at PA3.out (by simp)) (by simp));clear a0 a1 m0 m1;have d0:=zA PN5.out (i:=0) rfl;have d1:=zA PN5.out (i:=1) rfl;have x0:=zA PX5.out (i:=0) rfl;have x1:=zA PX5.out (i:=1) rfl;have x2:=zA PX5.out (i:=2) rfl;have x3:=zA PX5.out (i:=3) rfl;have x4:=zA PX5.out (i:=4) rfl;have f3:=zE PX5.out (i:=3);have f4:=zE PX5.out (i:=4);go_upto_region 43 with fail
 obtain⟨W6,hW6⟩: ∃W,W=(W5.setCell ⟨xb,3,none⟩ (.slice na nn nc)).setCell ⟨xb,4,none⟩ (.slice ma mn mc):=⟨_,rfl⟩;rw[←hW6];have F6:Hid (Fr [xb] W5 W6):=Lib.hid (by rw[hW6];exact((Fr.refl [xb] W5).setCell (.inl (by simp)) _).setCell (.inl (by simp)) _);have PX6:Hid (blk W6 xb=some (.cells #[v0,.pointer (some ⟨kb,0,none⟩),tv,.slice na nn nc,.slice ma mn mc,.bool full] 42 (0,0))):=Lib.hid (by rw[hW6,zD,if_pos rfl,zD,if_pos rfl,PX5.out];rfl);have H6:Hid (Fr [xb] w W6):=Lib.hid ((H5.out.mono (by simp)).same F6.out);have H6b:Hid (Fr (xb::B) w W6):=Lib.hid (H6.out.mono (fun x hx=> .inl (by simp at hx;simp[hx])));have PA6:=Lib.hid (F6.out.at PA5.out (by simp;have:=HXB.out;have:=HAB.out;omega));have CT6:=Lib.hid (CT.out W6 na ma nn nc mn mc H6b.out PX6.out);have CK6:=Lib.hid (CK.out W6 H6.out);clear hW6 d0 d1 x0 x1 x2 x3 x4 f3 f4 CT CK;have a0:=zA PA6.out (i:=0) rfl;have a1:=zA PA6.out (i:=1) rfl;have b0:(er==er)=true:=by simp
 go_wp2_with (first|(go_at_call 40;refine CT6.out.mono ?_;rintro e w7 ⟨rfl,hw⟩;have HW:=Lib.hid hw;clear hw)|(go_at_call 18;rw[←HW.out];refine CK6.out.mono ?_;rintro e w8 ⟨rfl,hK,hF8⟩));go_ret;refine⟨rfl,RR.out na ma nn nc mn mc w4 W6 w8 H4.out hD.out ((F5.out.mono (by simp)).same F6.out) PX6.out hK.out hF8.out⟩
set_option maxRecDepth 100000 in
set_option maxHeartbeats 4000000 in
theorem step_11(w:World)(xb kb:Nat)(v0 tv:Value)(fa ta:Option Addr)(fn fc tn tc:Nat)(full:Bool)(n m word:Int)(deep:Bool)(la qa:Option Addr)(ln lc qn qc:Nat)(p0 p1:Int)(hb:Hid (blk w xb=some (.cells #[v0,.pointer (some ⟨kb,0,none⟩),tv,.slice fa fn fc,.slice ta tn tc,.bool full] 42 (0,0)))){D:Option Addr→Nat→Nat→Option Addr→Nat→Nat→World→Prop}{KK:Int→Bool→World→Prop}{R:World→Prop}(B:List Nat)(HB:Hid (xb∉B∧∀x,x∈B→x<w.heap.size))(N:Nat)(xs:List Value)(hN:N≤1000000)(TV:Hid (∀W,Fr B w W→W.ownsRow 0 28 1 tv N xs))(HTX:Hid (tv.ownBlock≠some xb))(er:Int)(yes:Bool)(hy:(er==0)=yes)(rw:Int)(CT:Hid (∀(W:World) (a3 a4:Option Addr) (n3 m3 n4 m4:Nat),Fr (xb::B) w W→blk W xb=some (.cells #[v0,.pointer (some ⟨kb,0,none⟩),tv,.slice a3 n3 m3,.slice a4 n4 m4,.bool full] 42 (0,0))→Calls Tryz.prog 40 #[.pointer (some ⟨xb,0,none⟩),.int .i64 n] W fun e w'=>e=.returned (.int .u64 rw)∧W=w'))(CD:Hid (∀W,Fr [] w W→Calls Tryz.prog 41 #[.agg #[.slice fa fn fc,.slice ta tn tc],.int .i64 n] W fun e w'=> ∃(na ma:Option Addr) (nn nc mn mc:Nat),e=.returned (.tuple #[.agg #[.slice na nn nc,.slice ma mn mc],.int .i64 er])∧Hid (D na nn nc ma mn mc w')∧Hid (Fr [] W w')))(CK:Hid (∀W,Fr [] w W→Calls Tryz.prog 42 #[.pointer (some ⟨kb,0,none⟩),.int .u64 rw] W fun e w'=> ∃(r:Int) (ok:Bool),e=.returned (.tuple #[.int .u64 r,.bool ok,.int .i64 er])∧Hid (KK r ok w'∧((ok=true∧yes=true)∨ok=false))∧Hid (Fr B W w')))(NO:Hid (∀(na ma:Option Addr) (nn nc mn mc:Nat) (r:Int) (w1 w5 w':World),Fr [] w w1→D na nn nc ma mn mc w1→Fr B w1 w5→KK r false w5→Fr [xb] w5 w'→blk w' xb=some (.cells #[v0,.pointer (some ⟨kb,0,none⟩),tv,.slice fa fn fc,.slice ta tn tc,.bool (if yes=true then true else full)] 42 (0,0))→R w'))(YES:Hid (∀(na ma:Option Addr) (nn nc mn mc:Nat) (r:Int) (g cap:Nat) (w1 w5 w':World),Fr [] w w1→D na nn nc ma mn mc w1→Fr B w1 w5→KK r true w5→yes=true→w'.ownsRow 0 28 1 (.slice (some ⟨g,0,none⟩) (N+1) cap) (N+1) (xs++[.int .u64 r])→(tv.ownBlock=some g∨w5.heap.size≤g)→Fr (xb::tv.ownBlock.toList) w5 w'→blk w' xb=some (.cells #[v0,.pointer (some ⟨kb,0,none⟩),.slice (some ⟨g,0,none⟩) (N+1) cap,.slice na nn nc,.slice ma mn mc,.bool full] 42 (0,0))→R w')):
 Calls Tryz.prog 8 #[.pointer (some ⟨xb,0,none⟩),.agg #[.int .i64 11,.int .i64 n,.int .i64 m,.int .u64 word,.bool deep,.slice la ln lc,.slice qa qn qc,.int .i64 p0,.int .i64 p1]] w fun e w'=>e=.returned (.bool true)∧R w':=by
 obtain⟨i1,hii1,hz01,hz11,hz21⟩:=info_parts info_wd;have IW:=Lib.hid hii1;have Y0:=Lib.hid hz01;have Y1:=Lib.hid hz11;have Y2:=Lib.hid hz21;clear hii1 hz01 hz11 hz21;obtain⟨W2,hW2⟩: ∃W,W=w.alloc (.cells #[.int .i64 11,.int .i64 n,.int .i64 m,.int .u64 word,.bool deep,.slice la ln lc,.slice qa qn qc,.int .i64 p0,.int .i64 p1] 33):=⟨_,rfl⟩;obtain⟨ab,hab⟩: ∃ab,ab=w.heap.size:=⟨_,rfl⟩;have FW2:Hid (Fr [] w W2):=Lib.hid (by rw[hW2];exact(Fr.refl _ _).alloc _);have PA2:Hid (blk W2 ab=some (.cells #[.int .i64 11,.int .i64 n,.int .i64 m,.int .u64 word,.bool deep,.slice la ln lc,.slice qa qn qc,.int .i64 p0,.int .i64 p1] 33 (0,0))):=Lib.hid (by rw[hW2,hab,zB,if_pos rfl]);have PX2:=Lib.hid (FW2.out.at hb.out (by simp));have HAB:Hid (w.heap.size≤ab):=Lib.hid (by omega);go_enter Tryz.func8,Tryz.ntmps8;go_upto_region 1 with fail
 rw[←hW2]
 try rw[←hab]
 clear hW2 hab;have x1:=zA PX2.out (i:=1) rfl;have x3:=zA PX2.out (i:=3) rfl;have x4:=zA PX2.out (i:=4) rfl;have hxl:=zF PX2.out;have hxn:xb≠W2.heap.size:=by omega
 go_region
 obtain⟨W3,hW3⟩: ∃W,W=(W2.alloc (.cells #[.slice fa fn fc,.slice ta tn tc] 40)).drew:=⟨_,rfl⟩;obtain⟨mb,hmb⟩: ∃k,k=W2.heap.size:=⟨_,rfl⟩;have F3:Hid (Fr [] W2 W3):=Lib.hid (by rw[hW3];exact((Fr.refl _ _).alloc _).drew);have PM3:Hid (blk W3 mb=some (.cells #[.slice fa fn fc,.slice ta tn tc] 40 (0,0))):=Lib.hid (by rw[hW3,hmb];show blk (W2.alloc _) _=_;rw[zB,if_pos rfl]);have PA3:=Lib.hid (F3.out.at PA2.out (by simp));have PX3:=Lib.hid (F3.out.at PX2.out (by simp));have H3:Hid (Fr [] w W3):=Lib.hid (FW2.out.trans F3.out (by simp));have HMB:Hid (w.heap.size≤mb):=Lib.hid (by rw[hmb];exact FW2.out.size);rw[←hW3]
 try rw[←hmb]
 clear hW3 hmb x1 x3 x4 hxl hxn FW2 F3 PA2 PX2;have a0:=zA PA3.out (i:=0) rfl;have a1:=zA PA3.out (i:=1) rfl;have m0:=zA PM3.out (i:=0) rfl;have m1:=zA PM3.out (i:=1) rfl;have HXB:Hid (xb<w.heap.size):=Lib.hid (zF hb.out);have HY:=Lib.hid hy;clear hb hy;go_upto_region 46 with(go_at_call 41;refine(CD.out _ H3.out).mono ?_;rintro e w4 ⟨na,ma,nn,nc,mn,mc,rfl,hD,hF4⟩)
 obtain⟨W5,hW5⟩: ∃W,W=w4.alloc (.cells #[.slice na nn nc,.slice ma mn mc] 40):=⟨_,rfl⟩;obtain⟨nb,hnb⟩: ∃k,k=w4.heap.size:=⟨_,rfl⟩;have F5:Hid (Fr [] w4 W5):=Lib.hid (by rw[hW5];exact(Fr.refl _ _).alloc _);have PN5:Hid (blk W5 nb=some (.cells #[.slice na nn nc,.slice ma mn mc] 40 (0,0))):=Lib.hid (by rw[hW5,hnb,zB,if_pos rfl]);have HNB:Hid (w.heap.size≤nb):=Lib.hid (by rw[hnb];exact Nat.le_trans H3.out.size hF4.out.size);have H4:Hid (Fr [] w w4):=Lib.hid (H3.out.trans hF4.out (by simp));have H5:Hid (Fr [] w W5):=Lib.hid (H4.out.trans F5.out (by simp));rw[←hW5]
 try rw[←hnb]
 clear hW5 hnb;have PX5:=Lib.hid (F5.out.at (hF4.out.at PX3.out (by simp)) (by simp));have PA5:=Lib.hid (F5.out.at (hF4.out.at PA3.out (by simp)) (by simp));clear a0 a1 m0 m1;have a0:=zA PA5.out (i:=0) rfl;have a1:=zA PA5.out (i:=1) rfl;have H5b:Hid (Fr (xb::B) w W5):=Lib.hid (H5.out.mono (by simp));have CT5:=Lib.hid (CT.out W5 fa ta fn fc tn tc H5b.out PX5.out);have CK5:=Lib.hid (CK.out W5 H5.out);clear CT CK;go_upto_region 47 with(first|(go_at_call 40;refine CT5.out.mono ?_;rintro e w7 ⟨rfl,hw⟩;have HW:=Lib.hid hw;clear hw)|(go_at_call 42;rw[←HW.out];refine CK5.out.mono ?_;rintro e w6 ⟨r,ok,rfl,hK,hF6⟩))
 have PX6:=Lib.hid (hF6.out.at PX5.out HB.out.1);have PN6:=Lib.hid (hF6.out.at PN5.out (fun hc=>by have:=HB.out.2 _ hc;have:=HNB.out;omega));have b1:(er==er)=true:=by simp
 clear a0 a1;cases ok with
 |false=>
  have hy:=HY.out;have d0:=zA PN6.out (i:=0) rfl;have d1:=zA PN6.out (i:=1) rfl;go_wp2_with (first|(go_at_call 22;refine(end_c _ xb v0 _ tv fa ta na ma fn fc tn tc nn nc mn mc full false yes true PX6 (by cases yes<;>simp)).mono ?_;rintro e w8 ⟨rfl,hR,hF8⟩;have R7:=Lib.hid hR;have K7:=Lib.hid hF8;clear hR hF8));go_ret;refine⟨rfl,NO.out na ma nn nc mn mc r w4 w6 w8 H4.out hD.out ((F5.out.mono (by simp)).same hF6.out) hK.out.1 K7.out ?_⟩;rw[R7.out]
  simp
 |true=>
  have hyt:yes=true:=by rcases hK.out.2 with⟨_,h1⟩|h;(· exact h1);cases h
  subst hyt;have hy:=HY.out;have hxT:=HTX.out;have TV6:=Lib.hid (TV.out _ ((H5.out.mono (by simp)).same hF6.out));have hTl:Hid (∀y,tv.ownBlock=some y→y<w.heap.size):=Lib.hid (fun y hy=>((TV.out _ (Fr.refl _ _)).lt y hy).2);have x2:=zA PX6.out (i:=2) rfl;have NWZ:=Lib.hid (World.news_of_block (w:=w6.alloc (.cells #[.int .u64 r] 28)) (B:=w6.heap.size) (show blk (World.alloc _ _) _=_ from by rw[zB,if_pos rfl]));have FZ:Hid (Fr [] w6 (w6.alloc (.cells #[.int .u64 r] 28))):=Lib.hid ((Fr.refl _ _).alloc _);have TV7:=Lib.hid (zL TV6.out FZ.out (by simp));have hxl:=zF PX6.out;have hxn6:xb≠w6.heap.size:=by omega
  clear hxT;go_upto_region 49 with(at_builtin;refine wpList_appV _ rfl _ _ _ rfl 0 28 i1 (.int .u64 0) 1 8 Tryz.underlying29 IW.out Y0.out Y1.out Y2.out rfl (by decide) tv N xs rfl TV7.out ⟨w6.heap.size,0,none⟩ 1 1 [.int .u64 r] rfl rfl NWZ.out (by simp[Value.oneCell']) (by decide) (by unfold maxLen;omega) (by omega) (Nat.zero_le _) ?_;intro g cap w8 own8 fr8 at8;have OW8:=Lib.hid own8;have F8:Hid (Fr tv.ownBlock.toList w6 w8):=Lib.hid ((FZ.out.mono (by simp)).same fr8);have A8:=Lib.hid at8;clear own8 fr8 at8;have PX8:=Lib.hid (F8.out.at PX6.out (by simp only[Option.mem_toList];exact HTX.out));have x2:=zA PX8.out (i:=2) rfl;have f2:=zE PX8.out (i:=2))
  obtain⟨W9,hW9⟩: ∃W,W=w8.setCell ⟨xb,2,none⟩ (.slice (some ⟨g,0,none⟩) (N+1) cap):=⟨_,rfl⟩;rw[←hW9];have F9:Hid (Fr [xb] w8 W9):=Lib.hid (by rw[hW9];exact(Fr.refl [xb] w8).setCell (.inl (by simp)) _)
  have hgx:Hid (g≠xb):=Lib.hid (by
   rcases A8.out with h|h
   ·intro hc;exact HTX.out (by rw[←hc];exact h)
   ·have h9:(w6.alloc (.cells #[.int .u64 r] 28)).heap.size≤g:=h;rw[zC]at h9;omega)
  have OW9:=Lib.hid (zL OW8.out F9.out (by
   intro q hq;have:g=q:=by simpa[Value.ownBlock]using hq
   subst this
   simp;exact hgx.out))
  have PX9:Hid (blk W9 xb=some (.cells #[v0,.pointer (some ⟨kb,0,none⟩),.slice (some ⟨g,0,none⟩) (N+1) cap,.slice fa fn fc,.slice ta tn tc,.bool full] 42 (0,0))):=Lib.hid (by rw[hW9,zD,if_pos rfl,PX8.out];rfl);have PN9:=Lib.hid (F9.out.at (F8.out.at PN6.out (by simp only[Option.mem_toList];intro hc;have:=hTl.out _ hc;have:=HNB.out;omega)) (by simp;have:=HXB.out;have:=HNB.out;omega))
  have A9:Hid (tv.ownBlock=some g∨w6.heap.size≤g):=Lib.hid (by
   rcases A8.out with h|h
   ·exact .inl h
   ·right;have h9:(w6.alloc (.cells #[.int .u64 r] 28)).heap.size≤g:=h;rw[zC]at h9;omega)
  clear hW9 x2 f2 NWZ TV7 TV6 FZ hxl hxn6 OW8 PX8 A8;have d0:=zA PN9.out (i:=0) rfl;have d1:=zA PN9.out (i:=1) rfl;go_wp2_with (first|(go_at_call 22;refine(end_c _ xb v0 _ _ fa ta na ma fn fc tn tc nn nc mn mc full true true true PX9 (.inl ⟨rfl,rfl⟩)).mono ?_;rintro e wz ⟨rfl,hR,hFz⟩;have R7:=Lib.hid hR;have K7:=Lib.hid hFz;clear hR hFz));go_ret;refine⟨rfl,YES.out na ma nn nc mn mc r g cap w4 w6 wz H4.out hD.out ((F5.out.mono (by simp)).same hF6.out) hK.out.1 (by first|rfl|trivial) (zL OW9.out K7.out ?_) A9.out ?_ ?_⟩
  ·intro q hq;have:g=q:=by simpa[Value.ownBlock]using hq
   subst this
   simp;exact hgx.out
  ·exact((F8.out.mono (fun x hx=> .inl (List.mem_cons_of_mem _ hx))).same (F9.out.mono (fun x hx=> .inl (by simp at hx;simp[hx])))).same (K7.out.mono (fun x hx=> .inl (by simp at hx;simp[hx])))
  ·rw[R7.out]
   simp
end
end Go.Proofs.YtghkahcogphomaaGreat
