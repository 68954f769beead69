/- Fibers: a part of the walk. No condition. -/
import Derived.Test.YtghkahcogphomaaGreatQk13
set_option linter.all false
namespace Go.Proofs.YtghkahcogphomaaGreat
section
open Go.ChangeShapes Go.WideShapes Go.RowKit Go.Maps
variable{w w':World}{c:Tk}{m n:Nat}{cl:Int→Int}{wv:Value}{T:Tr}
theorem szI_b(wd:T.A.Wd){x:Int}(x0:0≤x): -1≤szI T.A m x∧szI T.A m x<9007199254740992:=by
 unfold szI;cases ho:hAt T.A m x with
 |none=>simp
 |some o=>have:=(hAt_bd wd x0 ho).2.2.2.1;simp;omega
theorem moveF_wd{A:Ar}(wd:A.Wd)(m:Nat)(x:Int):(moveF A m x).1.Wd:=by
 unfold moveF;cases hAt A m x with
 |none=>exact wd
 |some h=>
  simp only;split
  ·exact wd
  ·have hw:=fresh_words A m ((h.n:Int)+1);cases (A.fresh m ((h.n:Int)+1)).2 with
   |none=>exact wd.of hw
   |some k=>exact(((wd.of hw).copyW _ _ _).set _ _ (by unfold mkW;omega) (by unfold mkW;omega))
theorem own_ge'{B:Nat}{e:TypeId}{size:Nat}{v:Value}{k:Nat}{xs:List Value}(h:w.ownsRow B e size v k xs): ∀y,v.ownBlock=some y→B≤y:=by
 intro y hy;rcases h.2 with⟨hv,_⟩|⟨g,cap,cur,hv,hb,_⟩
 ·subst hv;simp[Value.ownBlock]at hy
 ·subst hv;simp[Value.ownBlock]at hy;omega
theorem TrAt.ks(h:TrAt w c m n cl wv T):w.cell? ⟨c.tb,0,none⟩=some (.pointer (some ⟨c.hb,0,none⟩))∧w.cell? ⟨c.tb,2,none⟩=some (.int .i64 T.least)∧w.cell? ⟨c.tb,3,none⟩=some (.int .i64 T.left):=⟨zA h.t rfl,zA h.t rfl,zA h.t rfl⟩
theorem TrAt.moved(h:TrAt w c m n cl wv T)(A':Ar)(lf lv mv:Int)(hF:Fr [c.b,c.wb,c.lb,c.tb] w w')(hH:HeAt w' c.hb c.b c.wb c.lb A')(ok:A'.Ok m)(wd:A'.Wd)
 (ht:blk w' c.tb=some (.cells #[.pointer (some ⟨c.hb,0,none⟩),.map (some c.mb),.int .i64 T.least,.int .i64 lf,.slice (some ⟨c.sb,0,none⟩) T.seen.length T.seen.length,wv,.int .i64 lv,.int .i64 mv,.int .i64 0] 134 (0,0)))
 (hl: -1000000≤lf∧lf≤1000000):TrAt w' c m n cl wv { T with A:=A',left:=lf,live:=lv,moved:=mv }:=by
 have ap:=h.ap;simp only[List.nodup_cons,List.mem_cons,List.not_mem_nil,or_false,not_or]at ap;obtain⟨⟨a1,a2,a3,a4,a5,a6⟩,⟨b2,b3,b4,b5,b6⟩,⟨d3,d4,d5,d6⟩,⟨e1,e2,e3⟩,⟨f1,f2⟩,g1,_⟩:=ap;have hlo:=h.lo;refine⟨ht,hF.at h.s ?_,hH,h.cl.fr hF ?_,zL h.wk hF ?_,ok,wd,h.lo,h.ap,h.sl,h.w0,h.ls,hl⟩
 ·simp only[List.mem_cons,List.not_mem_nil,or_false,not_or];exact⟨b3,b4,b5,Ne.symm a1⟩
 ·simp only[List.mem_cons,List.not_mem_nil,or_false,not_or];exact⟨Ne.symm e3,Ne.symm f2,Ne.symm g1,Ne.symm a6⟩
 ·intro y hy;have:=own_ge' h.wk y hy;simp only[List.mem_cons,List.not_mem_nil,or_false,not_or];omega
set_option maxRecDepth 10000 in
set_option maxHeartbeats 2000000 in
theorem move_full(h:TrAt w c m n cl wv T)(x:Int)(hx:x%8=1)(x0:0≤x)(x1:x<18446744073709551616)(hm:mvB cl T.A m x=true)(hl:T.left<szI T.A m x+1)(he:(zW T.A.lines m:Int)≤T.least):
 Calls Tryz.prog 111 #[.pointer (some ⟨c.tb,0,none⟩),.int .u64 x] w fun e w'=>e=.returned (.tuple #[.int .u64 x,.bool false])∧Fr [] w w':=by
 have k0:=h.c0;have CS:=Lib.hid (osize_c w h.h h.ok h.wd x x0 x1);have CM:=Lib.hid (fun wa (hF:Fr [] w wa)=>movable_c (h.keep hF) x hx x0 x1);have CA:=Lib.hid (fun wa (hF:Fr [] w wa)=>oarena_c wa (h.keep hF).h);have CE:=Lib.hid (fun wa (hF:Fr [] w wa)=>empty_c wa (h.keep hF).h.ar h.ok);have KS:=Lib.hid (fun wa (hF:Fr [] w wa)=>(h.keep hF).ks);rw[hm]at CM;have hzb:=szI_b (m:=m) h.wd x0;have hb:decide (T.left<szI T.A m x+1)=true:=by simpa using hl
 have hb2:decide ((zW T.A.lines m:Int)≤T.least)=true:=by simpa using he
 change Hid (Calls _ _ _ _ fun e w'=>e=.returned (.int .i64 (szI T.A m x))∧Fr [] w w')at CS
 generalize szI T.A m x=z at*;generalize zW T.A.lines m=em at*;clear hm h;go_enter Tryz.func111,Tryz.ntmps111;go_wp2_with fail;refine CS.out.mono ?_;rintro e w1 ⟨rfl,F1⟩;go_wp2_with fail;refine wp_region_held_drew (S:=(fun W=>W.cell? ⟨c.tb,0,none⟩=some (.pointer (some ⟨c.hb,0,none⟩))∧W.cell? ⟨c.tb,2,none⟩=some (.int .i64 T.least)∧W.cell? ⟨c.tb,3,none⟩=some (.int .i64 T.left))) (by kernel_rfl) ?_ (fun hHeld=> ?_)
 ·first|assumption|exact KS.out _ (F1.same (Fr.refl _ _).drew)
 refine' wpAnyH_take (i:=0) (v:=_) rfl (by kernel_rfl) (by kernel_rfl) (by kernel_rfl) (fun _ _ _ h=>h) (Or.inl ⟨by rfl, ?hy0⟩) ‹_› ?re0
 case hy0=>intro w hSw;(try dsimp only at hSw);go_simp;try with_reducible rfl
 try simp only[Act.put,List.getElem_toArray,List.getElem_cons_succ,List.getElem_cons_zero,List.setIfInBounds_toArray,List.set_cons_zero,List.set_cons_succ]
 refine' wpAnyH_take (i:=1) (v:=_) rfl (by kernel_rfl) (by kernel_rfl) (by kernel_rfl) (fun _ _ _ h=>h) (Or.inl ⟨by rfl, ?hy1⟩) ‹_› ?re1
 case hy1=>intro w hSw;(try dsimp only at hSw);go_simp;try with_reducible rfl
 try simp only[Act.put,List.getElem_toArray,List.getElem_cons_succ,List.getElem_cons_zero,List.setIfInBounds_toArray,List.set_cons_zero,List.set_cons_succ]
 refine wpAnyH_ready (rs:=[2]) (by kernel_rfl) (by simp) ?_;refine AllReadyH.cons rfl (fun K hK=> ?_) AllReadyH.nil
 go_simp
 (go_at_call 123;refine(CM.out _ (Fr.same F1 (by repeat (first|exact Fr.refl _ _|apply Fr.drew)))).mono ?_;rintro e w2 ⟨rfl,F2⟩;have F3:Fr [] w w2:=F1.same (Fr.same (by repeat (first|exact Fr.refl _ _|apply Fr.drew)) F2);have ks:=KS.out w2 F3)
 refine hK.out _ _ ?_ (fun hHeld2=> ?_)
 ·first|assumption|exact KS.out _ (F1.same (Fr.refl _ _).drew)
 clear hK K hHeld
 try simp only[Act.put,List.getElem_toArray,List.getElem_cons_succ,List.getElem_cons_zero,List.setIfInBounds_toArray,List.set_cons_zero,List.set_cons_succ]
 refine' wpAnyH_take (i:=3) (v:=_) rfl (by kernel_rfl) (by kernel_rfl) (by kernel_rfl) (fun _ _ _ h=>h) (Or.inl ⟨by rfl, ?hy3⟩) ‹_› ?re3
 case hy3=>intro w hSw;(try dsimp only at hSw);go_simp;try with_reducible rfl
 try simp only[Act.put,List.getElem_toArray,List.getElem_cons_succ,List.getElem_cons_zero,List.setIfInBounds_toArray,List.set_cons_zero,List.set_cons_succ]
 refine' wpAnyH_take (i:=4) (v:=_) rfl (by kernel_rfl) (by kernel_rfl) (by kernel_rfl) (fun _ _ _ h=>h) (Or.inl ⟨by rfl, ?hy4⟩) ‹_› ?re4
 case hy4=>intro w hSw;(try dsimp only at hSw);go_simp;try with_reducible rfl
 try simp only[Act.put,List.getElem_toArray,List.getElem_cons_succ,List.getElem_cons_zero,List.setIfInBounds_toArray,List.set_cons_zero,List.set_cons_succ]
 refine' wpAnyH_take (i:=5) (v:=_) rfl (by kernel_rfl) (by kernel_rfl) (by kernel_rfl) (fun _ _ _ h=>h) (Or.inl ⟨by rfl, ?hy5⟩) ‹_› ?re5
 case hy5=>intro w hSw;(try dsimp only at hSw);go_simp;try with_reducible rfl
 try simp only[Act.put,List.getElem_toArray,List.getElem_cons_succ,List.getElem_cons_zero,List.setIfInBounds_toArray,List.set_cons_zero,List.set_cons_succ]
 refine' wpAnyH_take (i:=6) (v:=_) rfl (by kernel_rfl) (by kernel_rfl) (by kernel_rfl) (fun _ _ _ h=>h) (Or.inl ⟨by rfl, ?hy6⟩) ‹_› ?re6
 case hy6=>intro w hSw;(try dsimp only at hSw);go_simp;try with_reducible rfl
 try simp only[Act.put,List.getElem_toArray,List.getElem_cons_succ,List.getElem_cons_zero,List.setIfInBounds_toArray,List.set_cons_zero,List.set_cons_succ]
 refine' wpAnyH_take (i:=7) (v:=_) rfl (by kernel_rfl) (by kernel_rfl) (by kernel_rfl) (fun _ _ _ h=>h) (Or.inl ⟨by rfl, ?hy7⟩) ‹_› ?re7
 case hy7=>intro w hSw;(try dsimp only at hSw);go_simp;try with_reducible rfl
 try simp only[Act.put,List.getElem_toArray,List.getElem_cons_succ,List.getElem_cons_zero,List.setIfInBounds_toArray,List.set_cons_zero,List.set_cons_succ]
 refine' wpAnyH_take (i:=8) (v:=_) rfl (by kernel_rfl) (by kernel_rfl) (by kernel_rfl) (fun _ _ _ h=>h) (Or.inl ⟨by rfl, ?hy8⟩) ‹_› ?re8
 case hy8=>intro w hSw;(try dsimp only at hSw);go_simp;try with_reducible rfl
 try simp only[Act.put,List.getElem_toArray,List.getElem_cons_succ,List.getElem_cons_zero,List.setIfInBounds_toArray,List.set_cons_zero,List.set_cons_succ]
 refine' wpAnyH_take (i:=9) (v:=_) rfl (by kernel_rfl) (by kernel_rfl) (by kernel_rfl) (fun _ _ _ h=>h) (Or.inl ⟨by rfl, ?hy9⟩) ‹_› ?re9
 case hy9=>intro w hSw;(try dsimp only at hSw);go_simp;try with_reducible rfl
 try simp only[Act.put,List.getElem_toArray,List.getElem_cons_succ,List.getElem_cons_zero,List.setIfInBounds_toArray,List.set_cons_zero,List.set_cons_succ]
 refine' wpAnyH_take (i:=10) (v:=_) rfl (by kernel_rfl) (by kernel_rfl) (by kernel_rfl) (fun _ _ _ h=>h) (Or.inl ⟨by rfl, ?hy10⟩) ‹_› ?re10
 case hy10=>intro w hSw;(try dsimp only at hSw);go_simp;try with_reducible rfl
 try simp only[Act.put,List.getElem_toArray,List.getElem_cons_succ,List.getElem_cons_zero,List.setIfInBounds_toArray,List.set_cons_zero,List.set_cons_succ]
 refine' wpAnyH_take (i:=11) (v:=_) rfl (by kernel_rfl) (by kernel_rfl) (by kernel_rfl) (fun _ _ _ h=>h) (Or.inl ⟨by rfl, ?hy11⟩) ‹_› ?re11
 case hy11=>intro w hSw;(try dsimp only at hSw);go_simp;try with_reducible rfl
 try simp only[Act.put,List.getElem_toArray,List.getElem_cons_succ,List.getElem_cons_zero,List.setIfInBounds_toArray,List.set_cons_zero,List.set_cons_succ]
 refine' wpAnyH_take (i:=12) (v:=_) rfl (by kernel_rfl) (by kernel_rfl) (by kernel_rfl) (fun _ _ _ h=>h) (Or.inl ⟨by rfl, ?hy12⟩) ‹_› ?re12
 case hy12=>intro w hSw;(try dsimp only at hSw);go_simp;try with_reducible rfl
 try simp only[Act.put,List.getElem_toArray,List.getElem_cons_succ,List.getElem_cons_zero,List.setIfInBounds_toArray,List.set_cons_zero,List.set_cons_succ]
 refine' wpAnyH_take (i:=13) (v:=_) rfl (by kernel_rfl) (by kernel_rfl) (by kernel_rfl) (fun _ _ _ h=>h) (Or.inl ⟨by rfl, ?hy13⟩) ‹_› ?re13
 case hy13=>intro w hSw;(try dsimp only at hSw);go_simp;try with_reducible rfl
 try simp only[Act.put,List.getElem_toArray,List.getElem_cons_succ,List.getElem_cons_zero,List.setIfInBounds_toArray,List.set_cons_zero,List.set_cons_succ]
 refine' wpAnyH_take (i:=14) (v:=_) rfl (by kernel_rfl) (by kernel_rfl) (by kernel_rfl) (fun _ _ _ h=>h) (Or.inl ⟨by rfl, ?hy14⟩) ‹_› ?re14
 case hy14=>intro w hSw;(try dsimp only at hSw);go_simp;try with_reducible rfl
 try simp only[Act.put,List.getElem_toArray,List.getElem_cons_succ,List.getElem_cons_zero,List.setIfInBounds_toArray,List.set_cons_zero,List.set_cons_succ]
 refine' wpAnyH_take (i:=15) (v:=_) rfl (by kernel_rfl) (by kernel_rfl) (by kernel_rfl) (fun _ _ _ h=>h) (Or.inl ⟨by rfl, ?hy15⟩) ‹_› ?re15
 case hy15=>intro w hSw;(try dsimp only at hSw);go_simp;try with_reducible rfl
 try simp only[Act.put,List.getElem_toArray,List.getElem_cons_succ,List.getElem_cons_zero,List.setIfInBounds_toArray,List.set_cons_zero,List.set_cons_succ]
 refine' wpAnyH_take (i:=18) (v:=_) rfl (by kernel_rfl) (by kernel_rfl) (by kernel_rfl) (fun _ _ _ h=>h) (Or.inl ⟨by rfl, ?hy18⟩) ‹_› ?re18
 case hy18=>intro w hSw;(try dsimp only at hSw);go_simp;try with_reducible rfl
 try simp only[Act.put,List.getElem_toArray,List.getElem_cons_succ,List.getElem_cons_zero,List.setIfInBounds_toArray,List.set_cons_zero,List.set_cons_succ]
 refine' wpAnyH_take (i:=19) (v:=_) rfl (by kernel_rfl) (by kernel_rfl) (by kernel_rfl) (fun _ _ _ h=>h) (Or.inl ⟨by rfl, ?hy19⟩) ‹_› ?re19
 case hy19=>intro w hSw;(try dsimp only at hSw);go_simp;try with_reducible rfl
 try simp only[Act.put,List.getElem_toArray,List.getElem_cons_succ,List.getElem_cons_zero,List.setIfInBounds_toArray,List.set_cons_zero,List.set_cons_succ]
 refine' wpAnyH_take (i:=20) (v:=_) rfl (by kernel_rfl) (by kernel_rfl) (by kernel_rfl) (fun _ _ _ h=>h) (Or.inl ⟨by rfl, ?hy20⟩) ‹_› ?re20
 case hy20=>intro w hSw;(try dsimp only at hSw);go_simp;try with_reducible rfl
 try simp only[Act.put,List.getElem_toArray,List.getElem_cons_succ,List.getElem_cons_zero,List.setIfInBounds_toArray,List.set_cons_zero,List.set_cons_succ]
 refine' wpAnyH_take (i:=21) (v:=_) rfl (by kernel_rfl) (by kernel_rfl) (by kernel_rfl) (fun _ _ _ h=>h) (Or.inl ⟨by rfl, ?hy21⟩) ‹_› ?re21
 case hy21=>intro w hSw;(try dsimp only at hSw);go_simp;try with_reducible rfl
 try simp only[Act.put,List.getElem_toArray,List.getElem_cons_succ,List.getElem_cons_zero,List.setIfInBounds_toArray,List.set_cons_zero,List.set_cons_succ]
 refine wpAnyH_ready (rs:=[16]) (by kernel_rfl) (by simp) ?_;refine AllReadyH.cons rfl (fun K hK=> ?_) AllReadyH.nil
 go_simp
 (go_at_call 82;refine(CA.out _ F3).mono ?_;rintro e w3 ⟨rfl,rfl⟩)
 refine hK.out _ _ ?_ (fun hHeld3=> ?_)
 ·first|assumption|exact KS.out _ (F1.same (Fr.refl _ _).drew)
 clear hK K hHeld2
 try simp only[Act.put,List.getElem_toArray,List.getElem_cons_succ,List.getElem_cons_zero,List.setIfInBounds_toArray,List.set_cons_zero,List.set_cons_succ]
 refine wpAnyH_ready (rs:=[17]) (by kernel_rfl) (by simp) ?_;refine AllReadyH.cons rfl (fun K hK=> ?_) AllReadyH.nil
 go_simp
 (go_at_call 85;refine(CE.out _ F3).mono ?_;rintro e w4 ⟨rfl,F4⟩;have F5:Fr [] w w4:=F3.same F4;have ks4:=KS.out w4 F5)
 refine hK.out _ _ ?_ (fun hHeld4=> ?_)
 ·first|assumption|exact KS.out _ (F1.same (Fr.refl _ _).drew)
 clear hK K hHeld3
 try simp only[Act.put,List.getElem_toArray,List.getElem_cons_succ,List.getElem_cons_zero,List.setIfInBounds_toArray,List.set_cons_zero,List.set_cons_succ]
 refine' wpAnyH_take (i:=22) (v:=_) rfl (by kernel_rfl) (by kernel_rfl) (by kernel_rfl) (fun _ _ _ h=>h) (Or.inl ⟨by rfl, ?hy22⟩) ‹_› ?re22
 case hy22=>intro w hSw;(try dsimp only at hSw);go_simp;try with_reducible rfl
 try simp only[Act.put,List.getElem_toArray,List.getElem_cons_succ,List.getElem_cons_zero,List.setIfInBounds_toArray,List.set_cons_zero,List.set_cons_succ]
 refine' wpAnyH_take (i:=23) (v:=_) rfl (by kernel_rfl) (by kernel_rfl) (by kernel_rfl) (fun _ _ _ h=>h) (Or.inl ⟨by rfl, ?hy23⟩) ‹_› ?re23
 case hy23=>intro w hSw;(try dsimp only at hSw);go_simp;try with_reducible rfl
 try simp only[Act.put,List.getElem_toArray,List.getElem_cons_succ,List.getElem_cons_zero,List.setIfInBounds_toArray,List.set_cons_zero,List.set_cons_succ]
 refine' wpAnyH_take (i:=24) (v:=_) rfl (by kernel_rfl) (by kernel_rfl) (by kernel_rfl) (fun _ _ _ h=>h) (Or.inl ⟨by rfl, ?hy24⟩) ‹_› ?re24
 case hy24=>intro w hSw;(try dsimp only at hSw);go_simp;try with_reducible rfl
 try simp only[Act.put,List.getElem_toArray,List.getElem_cons_succ,List.getElem_cons_zero,List.setIfInBounds_toArray,List.set_cons_zero,List.set_cons_succ]
 refine wpAnyH_done (by kernel_rfl) ?_ _;go_wp2;go_ret2;exact⟨rfl,F5⟩
end
end Go.Proofs.YtghkahcogphomaaGreat
