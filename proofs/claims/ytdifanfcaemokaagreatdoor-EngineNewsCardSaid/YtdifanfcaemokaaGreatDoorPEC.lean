import Derived.Test.YtdifanfcaemokaaGreatDoorENq
open Prod (fst)
open Int (tdiv tmod)
set_option maxHeartbeats 4000000
set_option maxRecDepth 100000
set_option linter.unusedVariables false
set_option linter.unusedSimpArgs false
namespace Go.Proofs.YtdifanfcaemokaaGreatDoor.Av
noncomputable section
open Go Go.Proofs
def JY (c_0:Gh):Nat→HT (Nat⊕(Unit⊕Unit)) True
 | k3=>.run (cs 4 [oa]) (fun _=>Hg) <|
  .sp ((↑k3:Int)<(↑c_0.Devices.length:Int))
  (.run [bt] (fun γ=>Gb (dT γ.2)) <|
  .bd (c_0.Devices[k3]?) fun x22=>.sp ((↑x22.Down.length:Int)>(6:Int))
  (.run (cs 3 ((oN (.i k3))::oc::(oN (.v [.lst (fl Gp.enc x22.Down) x22.Down.length]))::oc::oa::oc::tc::(cs 8 [bt,oc]))) (fun γ=>k2 (ir γ.1.2) (k2 (GD (f:=Gj.enc) (z:=5) (fun _=>rfl) γ.1.2) (k2 (GL (f:=Gj.enc) (z:=6) (j:=k3) (a:=5) (n:=1) (fun _=>rfl) γ.1.2 (by decide) rfl) (k2 (dT γ.2) (Gb tT))))) <|
  .leaf (.inr (.inl ())) [0])
  (.run (cs 3 ((oN (.i k3))::oc::(oN (.v [.lst (fl Gp.enc x22.Down) x22.Down.length]))::oc::oa::oc::oF::(cs 2 [oN (.i k3),oc,oN (.v [.lst (fl GF.enc x22.Offsets) x22.Offsets.length]),oc,oa,oc]))) (fun γ=>k2 (ir γ.1.2) (k2 (GD (f:=Gj.enc) (z:=5) (fun _=>rfl) γ.1.2) (k2 (GL (f:=Gj.enc) (z:=6) (j:=k3) (a:=5) (n:=1) (fun _=>rfl) γ.1.2 (by decide) rfl) (k2 (dF γ.2) (k2 (ir γ.1.2) (k2 (GD (f:=Gj.enc) (z:=5) (fun _=>rfl) γ.1.2) (Gb (GL (f:=Gj.enc) (z:=6) (j:=k3) (a:=4) (n:=1) (fun _=>rfl) γ.1.2 (by decide) rfl)))))))) <|
  .sp ((↑x22.Offsets.length:Int)>(6:Int))
  (.run [bt,oc] (fun γ=>Gb (dT γ.2)) <|
  .leaf (.inr (.inl ())) [0])
  (.run [bf] (fun γ=>Gb (dF γ.2)) <|
  .gd (GS .i64 ((↑k3:Int)+1)) <| .run [oc,ow,oc] (fun γ=>Gb γ.2) <|
  .leaf (.inl (k3+1)) [0])))
  (.run [bf] (fun γ=>Gb (dF γ.2)) <|
  .leaf (.inr (.inr (()))) [0])
def HL (c_0:Gh):Nat→Option (Nat⊕(Unit⊕Unit)):=fun s=>(JY c_0 s).den
def Uz (c_0:Gh):Nat→PS:=fun s=>(207,[(1,.ptr 0 0),(3,jI (↑s:Int))],[(bT (Gh.enc c_0) 46)])
def UB:(Unit⊕Unit)→Hm:=fun q=>match q with | Sum.inl o=>.ret | Sum.inr (o)=>(.exit 0)
def UA (c_0:Gh):(Unit⊕Unit)→List (Nat×AV):=fun q=>match q with | Sum.inl o=>[(2,.bool false)] | Sum.inr (o)=>[(1,.ptr 0 0)]
def Uy (c_0:Gh):(Unit⊕Unit)→List Hb:=fun _=>[(bT (Gh.enc c_0) 46)]
theorem Q4 (c_0:Gh) {s:Nat} {r:Unit⊕Unit} (h:lp (HL c_0) s=some r):DT 1 (.loop (GK Tryz.prog 4 [1,1,0,1,0,0])) (Uz c_0 s).st (UB r) (PS.st (207,UA c_0 r,Uy c_0 r)):=
 GN.lp_ht 1 400 (Uz c_0) UB (fun q=>(207,UA c_0 q,Uy c_0 q)) (JY c_0) (by intro k3; kernel_rfl) h
def JZ (c_0:Gh):Nat→HT (Nat⊕(Unit⊕Unit)) True
 | k4=>.run (cs 4 [oa]) (fun _=>Hg) <|
  .sp ((↑k4:Int)<(↑c_0.Tariffs.length:Int))
  (.run [bt] (fun γ=>Gb (dT γ.2)) <|
  .bd (c_0.Tariffs[k4]?) fun x35=>.sp ((↑x35.Rates.length:Int)>(40:Int))
  (.run (cs 3 ((oN (.i k4))::oc::(oN (.v [.lst (fl GC.enc x35.Rates) x35.Rates.length]))::oc::oa::oc::tc::(cs 8 [bt,oc]))) (fun γ=>k2 (ir γ.1.2) (k2 (GD (f:=Gd.enc) (z:=3) (fun _=>rfl) γ.1.2) (k2 (GL (f:=Gd.enc) (z:=4) (j:=k4) (a:=3) (n:=1) (fun _=>rfl) γ.1.2 (by decide) rfl) (k2 (dT γ.2) (Gb tT))))) <|
  .leaf (.inr (.inl ())) [0])
  (.run (cs 3 ((oN (.i k4))::oc::(oN (.v [.lst (fl GC.enc x35.Rates) x35.Rates.length]))::oc::oa::oc::oF::(cs 2 [oN (.i k4),oc,oN (.v [.lst (fl GR.enc x35.Bands) x35.Bands.length]),oc,oa,oc]))) (fun γ=>k2 (ir γ.1.2) (k2 (GD (f:=Gd.enc) (z:=3) (fun _=>rfl) γ.1.2) (k2 (GL (f:=Gd.enc) (z:=4) (j:=k4) (a:=3) (n:=1) (fun _=>rfl) γ.1.2 (by decide) rfl) (k2 (dF γ.2) (k2 (ir γ.1.2) (k2 (GD (f:=Gd.enc) (z:=3) (fun _=>rfl) γ.1.2) (Gb (GL (f:=Gd.enc) (z:=4) (j:=k4) (a:=2) (n:=1) (fun _=>rfl) γ.1.2 (by decide) rfl)))))))) <|
  .sp ((↑x35.Bands.length:Int)>(4:Int))
  (.run [bt,oc] (fun γ=>Gb (dT γ.2)) <|
  .leaf (.inr (.inl ())) [0])
  (.run [bf] (fun γ=>Gb (dF γ.2)) <|
  .gd (GS .i64 ((↑k4:Int)+1)) <| .run [oc,ow,oc] (fun γ=>Gb γ.2) <|
  .leaf (.inl (k4+1)) [0])))
  (.run [bf] (fun γ=>Gb (dF γ.2)) <|
  .leaf (.inr (.inr (()))) [0])
def HM (c_0:Gh):Nat→Option (Nat⊕(Unit⊕Unit)):=fun s=>(JZ c_0 s).den
def UD (c_0:Gh):Nat→PS:=fun s=>(207,[(1,.ptr 0 0),(4,jI (↑s:Int))],[(bT (Gh.enc c_0) 46)])
def UF:(Unit⊕Unit)→Hm:=fun q=>match q with | Sum.inl o=>.ret | Sum.inr (o)=>(.exit 2)
def UE (c_0:Gh):(Unit⊕Unit)→List (Nat×AV):=fun q=>match q with | Sum.inl o=>[(2,.bool false)] | Sum.inr (o)=>[(1,.ptr 0 0)]
def UC (c_0:Gh):(Unit⊕Unit)→List Hb:=fun _=>[(bT (Gh.enc c_0) 46)]
theorem Q5 (c_0:Gh) {s:Nat} {r:Unit⊕Unit} (h:lp (HM c_0) s=some r):DT 1 (.loop (GK Tryz.prog 4 [1,1,1,0,1,0,0])) (UD c_0 s).st (UF r) (PS.st (207,UE c_0 r,UC c_0 r)):=
 GN.lp_ht 1 400 (UD c_0) UF (fun q=>(207,UE c_0 q,UC c_0 q)) (JZ c_0) (by intro k4; kernel_rfl) h
def J0 (c_0:Gh):Nat→HT (Nat⊕(Unit⊕Unit)) True
 | k5=>.run (cs 4 [oa]) (fun _=>Hg) <|
  .sp ((↑k5:Int)<(↑c_0.Zones.length:Int))
  (.run [bt] (fun γ=>Gb (dT γ.2)) <|
  .bd (c_0.Zones[k5]?) fun x48=>.sp ((↑x48.Hours.length:Int)>(4:Int))
  (.run (cs 3 ((oN (.i k5))::oc::(oN (.v [.lst (fl Gl.enc x48.Hours) x48.Hours.length]))::oc::oa::oc::tc::(cs 8 [bt,oc]))) (fun γ=>k2 (ir γ.1.2) (k2 (GD (f:=Gg.enc) (z:=6) (fun _=>rfl) γ.1.2) (k2 (GL (f:=Gg.enc) (z:=7) (j:=k5) (a:=1) (n:=1) (fun _=>rfl) γ.1.2 (by decide) rfl) (k2 (dT γ.2) (Gb tT))))) <|
  .leaf (.inr (.inl ())) [0])
  (.run (cs 3 ((oN (.i k5))::oc::(oN (.v [.lst (fl Gl.enc x48.Hours) x48.Hours.length]))::oc::oa::oc::oF::(cs 2 [oN (.i k5),oc,oN (.v [.lst (fl Gv.enc x48.Steps) x48.Steps.length]),oc,oa,oc]))) (fun γ=>k2 (ir γ.1.2) (k2 (GD (f:=Gg.enc) (z:=6) (fun _=>rfl) γ.1.2) (k2 (GL (f:=Gg.enc) (z:=7) (j:=k5) (a:=1) (n:=1) (fun _=>rfl) γ.1.2 (by decide) rfl) (k2 (dF γ.2) (k2 (ir γ.1.2) (k2 (GD (f:=Gg.enc) (z:=6) (fun _=>rfl) γ.1.2) (Gb (GL (f:=Gg.enc) (z:=7) (j:=k5) (a:=2) (n:=1) (fun _=>rfl) γ.1.2 (by decide) rfl)))))))) <|
  .sp ((↑x48.Steps.length:Int)>(4:Int))
  (.run [bt,oc] (fun γ=>Gb (dT γ.2)) <|
  .leaf (.inr (.inl ())) [0])
  (.run [bf] (fun γ=>Gb (dF γ.2)) <|
  .gd (GS .i64 ((↑k5:Int)+1)) <| .run [oc,ow,oc] (fun γ=>Gb γ.2) <|
  .leaf (.inl (k5+1)) [0])))
  (.run [bf] (fun γ=>Gb (dF γ.2)) <|
  .leaf (.inr (.inr (()))) [0])
def HN (c_0:Gh):Nat→Option (Nat⊕(Unit⊕Unit)):=fun s=>(J0 c_0 s).den
def UH (c_0:Gh):Nat→PS:=fun s=>(207,[(1,.ptr 0 0),(5,jI (↑s:Int))],[(bT (Gh.enc c_0) 46)])
def UJ:(Unit⊕Unit)→Hm:=fun q=>match q with | Sum.inl o=>.ret | Sum.inr (o)=>(.exit 4)
def UI (c_0:Gh):(Unit⊕Unit)→List (Nat×AV):=fun q=>match q with | Sum.inl o=>[(2,.bool false)] | Sum.inr (o)=>[(1,.ptr 0 0)]
def UG (c_0:Gh):(Unit⊕Unit)→List Hb:=fun _=>[(bT (Gh.enc c_0) 46)]
theorem Q6 (c_0:Gh) {s:Nat} {r:Unit⊕Unit} (h:lp (HN c_0) s=some r):DT 1 (.loop (GK Tryz.prog 4 [1,1,1,1,0,1,0,0])) (UH c_0 s).st (UJ r) (PS.st (207,UI c_0 r,UG c_0 r)):=
 GN.lp_ht 1 400 (UH c_0) UJ (fun q=>(207,UI c_0 q,UG c_0 q)) (J0 c_0) (by intro k5; kernel_rfl) h
def J1 (c_0:Gh):Nat→HT (Nat⊕(Unit⊕Unit)) True
 | k6=>.run (cs 4 [oa]) (fun _=>Hg) <|
  .sp ((↑k6:Int)<(↑c_0.Permits.length:Int))
  (.run [bt] (fun γ=>Gb (dT γ.2)) <|
  .bd (c_0.Permits[k6]?) fun x61=>.sp ((↑x61.Plates.length:Int)>(4:Int))
  (.run (cs 3 ((oN (.i k6))::oc::(oN (.v [.lst (fl JB x61.Plates) x61.Plates.length]))::oc::oa::oc::tc::(cs 8 [bt,oc]))) (fun γ=>k2 (ir γ.1.2) (k2 (GD (f:=Gw.enc) (z:=6) (fun _=>rfl) γ.1.2) (k2 (GL (f:=Gw.enc) (z:=7) (j:=k6) (a:=2) (n:=1) (fun _=>rfl) γ.1.2 (by decide) rfl) (k2 (dT γ.2) (Gb tT))))) <|
  .leaf (.inr (.inl ())) [0])
  (.run (cs 3 ((oN (.i k6))::oc::(oN (.v [.lst (fl JB x61.Plates) x61.Plates.length]))::oc::oa::oc::oF::(cs 2 [oN (.i k6),oc,oN (.v [.lst (fl Gl.enc x61.Hours) x61.Hours.length]),oc,oa,oc]))) (fun γ=>k2 (ir γ.1.2) (k2 (GD (f:=Gw.enc) (z:=6) (fun _=>rfl) γ.1.2) (k2 (GL (f:=Gw.enc) (z:=7) (j:=k6) (a:=2) (n:=1) (fun _=>rfl) γ.1.2 (by decide) rfl) (k2 (dF γ.2) (k2 (ir γ.1.2) (k2 (GD (f:=Gw.enc) (z:=6) (fun _=>rfl) γ.1.2) (Gb (GL (f:=Gw.enc) (z:=7) (j:=k6) (a:=5) (n:=1) (fun _=>rfl) γ.1.2 (by decide) rfl)))))))) <|
  .sp ((↑x61.Hours.length:Int)>(4:Int))
  (.run [bt,oc] (fun γ=>Gb (dT γ.2)) <|
  .leaf (.inr (.inl ())) [0])
  (.run [bf] (fun γ=>Gb (dF γ.2)) <|
  .gd (GS .i64 ((↑k6:Int)+1)) <| .run [oc,ow,oc] (fun γ=>Gb γ.2) <|
  .leaf (.inl (k6+1)) [0])))
  (.run [bf] (fun γ=>Gb (dF γ.2)) <|
  .leaf (.inr (.inr (()))) [0])
def HO (c_0:Gh):Nat→Option (Nat⊕(Unit⊕Unit)):=fun s=>(J1 c_0 s).den
def UL (c_0:Gh):Nat→PS:=fun s=>(207,[(1,.ptr 0 0),(6,jI (↑s:Int))],[(bT (Gh.enc c_0) 46)])
def UN:(Unit⊕Unit)→Hm:=fun q=>match q with | Sum.inl o=>.ret | Sum.inr (o)=>(.exit 6)
def UM (c_0:Gh):(Unit⊕Unit)→List (Nat×AV):=fun q=>match q with | Sum.inl o=>[(2,.bool false)] | Sum.inr (o)=>[(1,.ptr 0 0)]
def UK (c_0:Gh):(Unit⊕Unit)→List Hb:=fun _=>[(bT (Gh.enc c_0) 46)]
theorem Q7 (c_0:Gh) {s:Nat} {r:Unit⊕Unit} (h:lp (HO c_0) s=some r):DT 1 (.loop (GK Tryz.prog 4 [1,1,1,1,1,0,1,0,0])) (UL c_0 s).st (UN r) (PS.st (207,UM c_0 r,UK c_0 r)):=
 GN.lp_ht 1 400 (UL c_0) UN (fun q=>(207,UM c_0 q,UK c_0 q)) (J1 c_0) (by intro k6; kernel_rfl) h
def J2 (c_0:Gh):Nat→HT (Nat⊕(Unit⊕Unit)) True
 | k7=>.run (cs 4 [oa]) (fun _=>Hg) <|
  .sp ((↑k7:Int)<(↑c_0.Accounts.length:Int))
  (.run [bt] (fun γ=>Gb (dT γ.2)) <|
  .bd (c_0.Accounts[k7]?) fun x73=>.run (cs 3 [oN (.i k7),oc,oN (.v [.lst (fl Gn.enc x73.Owned) x73.Owned.length]),oc,oa]) (fun γ=>k2 (ir γ.2) (k2 (GD (f:=Gc.enc) (z:=8) (fun _=>rfl) γ.2) (Gb (GL (f:=Gc.enc) (z:=9) (j:=k7) (a:=3) (n:=1) (fun _=>rfl) γ.2 (by decide) rfl)))) <|
  .sp ((↑x73.Owned.length:Int)>(4:Int))
  (.run [bt,oc] (fun γ=>Gb (dT γ.2)) <|
  .leaf (.inr (.inl ())) [0])
  (.run [bf] (fun γ=>Gb (dF γ.2)) <|
  .gd (GS .i64 ((↑k7:Int)+1)) <| .run [oc,ow,oc] (fun γ=>Gb γ.2) <|
  .leaf (.inl (k7+1)) [0]))
  (.run [bf] (fun γ=>Gb (dF γ.2)) <|
  .leaf (.inr (.inr (()))) [0])
def HP (c_0:Gh):Nat→Option (Nat⊕(Unit⊕Unit)):=fun s=>(J2 c_0 s).den
def UP (c_0:Gh):Nat→PS:=fun s=>(207,[(1,.ptr 0 0),(7,jI (↑s:Int))],[(bT (Gh.enc c_0) 46)])
def UR:(Unit⊕Unit)→Hm:=fun q=>match q with | Sum.inl o=>.ret | Sum.inr (o)=>(.exit 8)
def UQ (c_0:Gh):(Unit⊕Unit)→List (Nat×AV):=fun q=>match q with | Sum.inl o=>[(2,.bool false)] | Sum.inr (o)=>[(1,.ptr 0 0)]
def UO (c_0:Gh):(Unit⊕Unit)→List Hb:=fun _=>[(bT (Gh.enc c_0) 46)]
theorem Q8 (c_0:Gh) {s:Nat} {r:Unit⊕Unit} (h:lp (HP c_0) s=some r):DT 1 (.loop (GK Tryz.prog 4 [1,1,1,1,1,1,0,1,0,0])) (UP c_0 s).st (UR r) (PS.st (207,UQ c_0 r,UO c_0 r)):=
 GN.lp_ht 1 400 (UP c_0) UR (fun q=>(207,UQ c_0 q,UO c_0 q)) (J2 c_0) (by intro k7; kernel_rfl) h
def Rx (c_0:Gh):HT Bool True:=.run (cs 2 []) (fun _=>Hg) <|
  .sp ((↑c_0.Top.Net.Points.length:Int)>(8:Int))
  (.run (cs 5 (oa::oc::tc::(cs 73 [bt,oc]))) (fun γ=>k2 (dT γ.2) (Gb tT)) <|
  .leaf false [])
  (.sp ((↑c_0.Top.Net.Links.length:Int)>(16:Int))
  (.run (cs 5 (oa::oc::oF::(cs 4 (oa::(cs 2 (tc::(cs 65 [bt,oc]))))))) (fun γ=>k2 (dF γ.1.2) (k2 (dT γ.2) (Gb tT))) <|
  .leaf false [])
  (.sp ((↑c_0.Top.Systems.length:Int)>(4:Int))
  (.run (cs 5 (oa::oc::oF::(cs 4 (oa::(cs 2 (oF::(cs 3 (oa::(cs 2 (tc::(cs 58 [bt,oc]))))))))))) (fun γ=>k2 (dF γ.1.1.2) (k2 (dF γ.1.2) (k2 (dT γ.2) (Gb tT)))) <|
  .leaf false [])
  (.sp ((↑c_0.Devices.length:Int)>(24:Int))
  (.run (cs 5 (oa::oc::oF::(cs 4 (oa::(cs 2 (oF::(cs 3 (oa::(cs 2 (oF::(cs 2 (oa::(cs 2 (tc::(cs 52 [bt,oc]))))))))))))))) (fun γ=>k2 (dF (G0 γ)) (k2 (dF γ.1.1.2) (k2 (dF γ.1.2) (k2 (dT γ.2) (Gb tT))))) <|
  .leaf false [])
  (.sp ((↑c_0.Classes.length:Int)>(9:Int))
  (.run (cs 5 (oa::oc::oF::(cs 4 (oa::(cs 2 (oF::(cs 3 (oa::(cs 2 (oF::(cs 2 (oa::(cs 2 (oF::(cs 2 (oa::(cs 2 (tc::(cs 46 [bt,oc]))))))))))))))))))) (fun γ=>k2 (dF (HW γ)) (k2 (dF (G0 γ)) (k2 (dF γ.1.1.2) (k2 (dF γ.1.2) (k2 (dT γ.2) (Gb tT)))))) <|
  .leaf false [])
  (.sp ((↑c_0.Tags.length:Int)>(8:Int))
  (.run (cs 5 (oa::oc::oF::(cs 4 (oa::(cs 2 (oF::(cs 3 (oa::(cs 2 (oF::(cs 2 (oa::(cs 2 (oF::(cs 2 (oa::(cs 2 (oF::(cs 2 (oa::(cs 2 (tc::(cs 40 [bt,oc]))))))))))))))))))))))) (fun γ=>k2 (dF (RA γ)) (k2 (dF (HW γ)) (k2 (dF (G0 γ)) (k2 (dF γ.1.1.2) (k2 (dF γ.1.2) (k2 (dT γ.2) (Gb tT))))))) <|
  .leaf false [])
  (.sp ((↑c_0.Tariffs.length:Int)>(3:Int))
  (.run (cs 5 (oa::oc::oF::(cs 4 (oa::(cs 2 (oF::(cs 3 (oa::(cs 2 (oF::(cs 2 (oa::(cs 2 (oF::(cs 2 (oa::(cs 2 (oF::(cs 2 (oa::(cs 2 (oF::(cs 2 (oa::(cs 2 (tc::(cs 34 [bt,oc]))))))))))))))))))))))))))) (fun γ=>k2 (dF (yA6 γ)) (k2 (dF (RA γ)) (k2 (dF (HW γ)) (k2 (dF (G0 γ)) (k2 (dF γ.1.1.2) (k2 (dF γ.1.2) (k2 (dT γ.2) (Gb tT)))))))) <|
  .leaf false [])
  (.sp ((↑c_0.Zones.length:Int)>(3:Int))
  (.run (cs 5 (oa::oc::oF::(cs 4 (oa::(cs 2 (oF::(cs 3 (oa::(cs 2 (oF::(cs 2 (oa::(cs 2 (oF::(cs 2 (oa::(cs 2 (oF::(cs 2 (oa::(cs 2 (oF::(cs 2 (oa::(cs 2 (oF::(cs 2 (oa::(cs 2 (tc::(cs 28 [bt,oc]))))))))))))))))))))))))))))))) (fun γ=>k2 (dF (RB γ)) (k2 (dF (yA6 γ)) (k2 (dF (RA γ)) (k2 (dF (HW γ)) (k2 (dF (G0 γ)) (k2 (dF γ.1.1.2) (k2 (dF γ.1.2) (k2 (dT γ.2) (Gb tT))))))))) <|
  .leaf false [])
  (.sp ((↑c_0.Permits.length:Int)>(4:Int))
  (.run (cs 5 (oa::oc::oF::(cs 4 (oa::(cs 2 (oF::(cs 3 (oa::(cs 2 (oF::(cs 2 (oa::(cs 2 (oF::(cs 2 (oa::(cs 2 (oF::(cs 2 (oa::(cs 2 (oF::(cs 2 (oa::(cs 2 (oF::(cs 2 (oa::(cs 2 (oF::(cs 2 (oa::(cs 2 (tc::(cs 22 [bt,oc]))))))))))))))))))))))))))))))))))) (fun γ=>k2 (dF (yA8 γ)) (k2 (dF (RB γ)) (k2 (dF (yA6 γ)) (k2 (dF (RA γ)) (k2 (dF (HW γ)) (k2 (dF (G0 γ)) (k2 (dF γ.1.1.2) (k2 (dF γ.1.2) (k2 (dT γ.2) (Gb tT)))))))))) <|
  .leaf false [])
  (.sp ((↑c_0.Accounts.length:Int)>(4:Int))
  (.run (cs 5 (oa::oc::oF::(cs 4 (oa::(cs 2 (oF::(cs 3 (oa::(cs 2 (oF::(cs 2 (oa::(cs 2 (oF::(cs 2 (oa::(cs 2 (oF::(cs 2 (oa::(cs 2 (oF::(cs 2 (oa::(cs 2 (oF::(cs 2 (oa::(cs 2 (oF::(cs 2 (oa::(cs 2 (oF::(cs 2 (oa::(cs 2 (tc::(cs 16 [bt,oc]))))))))))))))))))))))))))))))))))))))) (fun γ=>k2 (dF (yA9 γ)) (k2 (dF (yA8 γ)) (k2 (dF (RB γ)) (k2 (dF (yA6 γ)) (k2 (dF (RA γ)) (k2 (dF (HW γ)) (k2 (dF (G0 γ)) (k2 (dF γ.1.1.2) (k2 (dF γ.1.2) (k2 (dT γ.2) (Gb tT))))))))))) <|
  .leaf false [])
  (.sp ((↑c_0.Reliefs.length:Int)>(4:Int))
  (.run (cs 5 (oa::oc::oF::(cs 4 (oa::(cs 2 (oF::(cs 3 (oa::(cs 2 (oF::(cs 2 (oa::(cs 2 (oF::(cs 2 (oa::(cs 2 (oF::(cs 2 (oa::(cs 2 (oF::(cs 2 (oa::(cs 2 (oF::(cs 2 (oa::(cs 2 (oF::(cs 2 (oa::(cs 2 (oF::(cs 2 (oa::(cs 2 (oF::(cs 2 (oa::(cs 2 (tc::(cs 10 [bt,oc]))))))))))))))))))))))))))))))))))))))))))) (fun γ=>k2 (dF (Gm1 γ)) (k2 (dF (yA9 γ)) (k2 (dF (yA8 γ)) (k2 (dF (RB γ)) (k2 (dF (yA6 γ)) (k2 (dF (RA γ)) (k2 (dF (HW γ)) (k2 (dF (G0 γ)) (k2 (dF γ.1.1.2) (k2 (dF γ.1.2) (k2 (dT γ.2) (Gb tT)))))))))))) <|
  .leaf false [])
  (.sp ((↑c_0.Holidays.length:Int)>(20:Int))
  (.run (cs 5 (oa::oc::oF::(cs 4 (oa::(cs 2 (oF::(cs 3 (oa::(cs 2 (oF::(cs 2 (oa::(cs 2 (oF::(cs 2 (oa::(cs 2 (oF::(cs 2 (oa::(cs 2 (oF::(cs 2 (oa::(cs 2 (oF::(cs 2 (oa::(cs 2 (oF::(cs 2 (oa::(cs 2 (oF::(cs 2 (oa::(cs 2 (oF::(cs 2 (oa::(cs 2 (oF::(cs 2 (oa::(cs 2 (tc::(cs 4 [bt,oc]))))))))))))))))))))))))))))))))))))))))))))))) (fun γ=>k2 (dF (Gxb γ)) (k2 (dF (Gm1 γ)) (k2 (dF (yA9 γ)) (k2 (dF (yA8 γ)) (k2 (dF (RB γ)) (k2 (dF (yA6 γ)) (k2 (dF (RA γ)) (k2 (dF (HW γ)) (k2 (dF (G0 γ)) (k2 (dF γ.1.1.2) (k2 (dF γ.1.2) (k2 (dT γ.2) (Gb tT))))))))))))) <|
  .leaf false [])
  (.run (cs 5 (oa::oc::oF::(cs 4 (oa::(cs 2 (oF::(cs 3 (oa::(cs 2 (oF::(cs 2 (oa::(cs 2 (oF::(cs 2 (oa::(cs 2 (oF::(cs 2 (oa::(cs 2 (oF::(cs 2 (oa::(cs 2 (oF::(cs 2 (oa::(cs 2 (oF::(cs 2 (oa::(cs 2 (oF::(cs 2 (oa::(cs 2 (oF::(cs 2 (oa::(cs 2 (oF::(cs 2 (oa::(cs 2 (oF::(cs 2 [oa,oc]))))))))))))))))))))))))))))))))))))))))))))))) (fun γ=>k2 (dF (Gxb γ)) (k2 (dF (Gm1 γ)) (k2 (dF (yA9 γ)) (k2 (dF (yA8 γ)) (k2 (dF (RB γ)) (k2 (dF (yA6 γ)) (k2 (dF (RA γ)) (k2 (dF (HW γ)) (k2 (dF (G0 γ)) (k2 (dF γ.1.1.2) (k2 (dF γ.1.2) (Gb (dF γ.2))))))))))))) <|
  .sp ((↑c_0.Keeping.length:Int)>(8:Int))
  (.run [bt,oc] (fun γ=>Gb (dT γ.2)) <|
  .leaf false [])
  (.run [bf,oc] (fun γ=>Gb (dF γ.2)) <|
  .bd (lp (HL c_0) (0:Nat)) fun qq=>.cs qq (fun o14=>.run [.fcut 1 .ret [(2,.bool false)] [(bT (Gh.enc c_0) 46)] [0] [(1,.any),(3,jI (↑(0:Nat):Int))] [bS]] (fun γ=>k2 (rfl:(jI 0:AV)=jI (↑(0:Nat):Int)) (Gb (Q4 c_0 (s:=(0:Nat)) (r:=Sum.inl o14) (eS γ.1.2 γ.2)))) <|
  .leaf false [])
  (fun o14=>.run [.fcut 1 (.exit 0) [(1,.ptr 0 0)] [(bT (Gh.enc c_0) 46)] [0] [(1,.any),(3,jI (↑(0:Nat):Int))] [bS],oc] (fun γ=>k2 (rfl:(jI 0:AV)=jI (↑(0:Nat):Int)) (Gb (Q4 c_0 (s:=(0:Nat)) (r:=Sum.inr (o14)) (eS γ.1.2 γ.2)))) <|
  .bd (lp (HM c_0) (0:Nat)) fun qq=>.cs qq (fun o27=>.run [.fcut 1 .ret [(2,.bool false)] [(bT (Gh.enc c_0) 46)] [0] [(1,.any),(4,jI (↑(0:Nat):Int))] [bS]] (fun γ=>k2 (rfl:(jI 0:AV)=jI (↑(0:Nat):Int)) (Gb (Q5 c_0 (s:=(0:Nat)) (r:=Sum.inl o27) (eS γ.1.2 γ.2)))) <|
  .leaf false [])
  (fun o27=>.run [.fcut 1 (.exit 2) [(1,.ptr 0 0)] [(bT (Gh.enc c_0) 46)] [0] [(1,.any),(4,jI (↑(0:Nat):Int))] [bS],oc] (fun γ=>k2 (rfl:(jI 0:AV)=jI (↑(0:Nat):Int)) (Gb (Q5 c_0 (s:=(0:Nat)) (r:=Sum.inr (o27)) (eS γ.1.2 γ.2)))) <|
  .bd (lp (HN c_0) (0:Nat)) fun qq=>.cs qq (fun o40=>.run [.fcut 1 .ret [(2,.bool false)] [(bT (Gh.enc c_0) 46)] [0] [(1,.any),(5,jI (↑(0:Nat):Int))] [bS]] (fun γ=>k2 (rfl:(jI 0:AV)=jI (↑(0:Nat):Int)) (Gb (Q6 c_0 (s:=(0:Nat)) (r:=Sum.inl o40) (eS γ.1.2 γ.2)))) <|
  .leaf false [])
  (fun o40=>.run [.fcut 1 (.exit 4) [(1,.ptr 0 0)] [(bT (Gh.enc c_0) 46)] [0] [(1,.any),(5,jI (↑(0:Nat):Int))] [bS],oc] (fun γ=>k2 (rfl:(jI 0:AV)=jI (↑(0:Nat):Int)) (Gb (Q6 c_0 (s:=(0:Nat)) (r:=Sum.inr (o40)) (eS γ.1.2 γ.2)))) <|
  .bd (lp (HO c_0) (0:Nat)) fun qq=>.cs qq (fun o53=>.run [.fcut 1 .ret [(2,.bool false)] [(bT (Gh.enc c_0) 46)] [0] [(1,.any),(6,jI (↑(0:Nat):Int))] [bS]] (fun γ=>k2 (rfl:(jI 0:AV)=jI (↑(0:Nat):Int)) (Gb (Q7 c_0 (s:=(0:Nat)) (r:=Sum.inl o53) (eS γ.1.2 γ.2)))) <|
  .leaf false [])
  (fun o53=>.run [.fcut 1 (.exit 6) [(1,.ptr 0 0)] [(bT (Gh.enc c_0) 46)] [0] [(1,.any),(6,jI (↑(0:Nat):Int))] [bS],oc] (fun γ=>k2 (rfl:(jI 0:AV)=jI (↑(0:Nat):Int)) (Gb (Q7 c_0 (s:=(0:Nat)) (r:=Sum.inr (o53)) (eS γ.1.2 γ.2)))) <|
  .bd (lp (HP c_0) (0:Nat)) fun qq=>.cs qq (fun o66=>.run [.fcut 1 .ret [(2,.bool false)] [(bT (Gh.enc c_0) 46)] [0] [(1,.any),(7,jI (↑(0:Nat):Int))] [bS]] (fun γ=>k2 (rfl:(jI 0:AV)=jI (↑(0:Nat):Int)) (Gb (Q8 c_0 (s:=(0:Nat)) (r:=Sum.inl o66) (eS γ.1.2 γ.2)))) <|
  .leaf false [])
  (fun o66=>.run [.fcut 1 (.exit 8) [(1,.ptr 0 0)] [(bT (Gh.enc c_0) 46)] [0] [(1,.any),(7,jI (↑(0:Nat):Int))] [bS]] (fun γ=>k2 (rfl:(jI 0:AV)=jI (↑(0:Nat):Int)) (Gb (Q8 c_0 (s:=(0:Nat)) (r:=Sum.inr (o66)) (eS γ.1.2 γ.2)))) <|
  .bd (Gbe c_0) fun r77=>.run [oc,rN [.any] (jI r77) [],oa,oc] (fun γ=>Gb (Gau c_0 r77 γ.2)) <|
  .leaf (r77==(0:Int)) []))))))))))))))))))
def Qk (c_0:Gh):Option Bool:=(Rx c_0).den
theorem Gfz (c_0:Gh) (r:Bool) (h:Qk c_0=some r):RT 4 [.agg (Gh.enc c_0)] (.bool r) []:=
 HA.of_ht 400 (Rx c_0) (fun (r:Bool)=>.bool r) (fun (r:Bool)=>[]) (by kernel_rfl) h
def GoH (c_0:Gh):HT (G2×Int) True:=.run (cs 3 []) (fun _=>Hg) <|
  .bd (Gbe c_0) fun r1=>.run (oc::(rN [.any] (jI r1) [])::(cs 2 [oa])) (fun γ=>Gb (Gau c_0 r1 γ.2)) <|
  .sp (r1=(0:Int))
  (.run (bf::(cs 4 [])) (fun γ=>Gb (Gx (Gu γ.2))) <|
  .leaf ((⟨c_0,[],[],[],0,(⟨[],[],[],[],[],[]⟩:Rc),(⟨(⟨[]⟩:Ra),[]⟩:U6),[],0⟩:G2),0) [])
  (.run (bt::(cs 4 [])) (fun γ=>Gb (Gy (Gz γ.2))) <|
  .leaf ((⟨(⟨(⟨(⟨[],[]⟩:Gf),[]⟩:Ga),[],[],[],0,0,[],(⟨0,[],[],[]⟩:GI),[],[],[],[],[],[],[],(⟨[],[],0⟩:GO),[],([]:List UInt8)⟩:Gh),[],[],[],0,(⟨[],[],[],[],[],[]⟩:Rc),(⟨(⟨[]⟩:Ra),[]⟩:U6),[],0⟩:G2),r1) [])
def GrH (c_0:Gh):Option (G2×Int):=(GoH c_0).den
theorem Gut (c_0:Gh) (r:(G2×Int)) (h:GrH c_0=some r):RT 19 [.agg (Gh.enc c_0)] (.tup [.agg (G2.enc r.1),jI r.2]) []:=
 HA.of_ht 400 (GoH c_0) (fun (r:(G2×Int))=>.tup [.agg (G2.enc r.1),jI r.2]) (fun (r:(G2×Int))=>[]) (by kernel_rfl) h
def Rv (c_0:Gh):HT (G2×Bool) True:=.run (cs 3 []) (fun _=>Hg) <|
  .bd (GrH c_0) fun r1=>.run (oc::(rN [.any] (.tup [.agg (G2.enc r1.1),jI r1.2]) [])::(cs 8 (oa::(cs 2 [])))) (fun γ=>Gb (Gut c_0 r1 γ.2)) <|
  .leaf (r1.1,(r1.2==(0:Int))) []
def Qj (c_0:Gh):Option (G2×Bool):=(Rv c_0).den
theorem Gfy (c_0:Gh) (r:(G2×Bool)) (h:Qj c_0=some r):RT 7 [.agg (Gh.enc c_0)] (.tup [.agg (G2.enc r.1),.bool r.2]) []:=
 HA.of_ht 400 (Rv c_0) (fun (r:(G2×Bool))=>.tup [.agg (G2.enc r.1),.bool r.2]) (fun (r:(G2×Bool))=>[]) (by kernel_rfl) h
end
set_option maxHeartbeats 4000000
noncomputable section
def Gsr (_:Nat) (x:Gj):Option Unit:=if x.Down.length>6 then some () else if x.Offsets.length>6 then some () else none
theorem GwW (c:Gh) (hs:Sm c.Devices):lp (HL c) 0=some (HQ (GJ Gsr 0 c.Devices)):=by
 refine GP (fun k x hx=>?_) ?_
 ·obtain ⟨hk,i1,i2,hkl,h1,h2⟩:=rd hs hx
  simp only [HL,JY,dA,eN,eM,hx,Hd,i1,if_true,hkl,Gsr]
  by_cases g0:x.Down.length>6
  ·rw [if_pos (by omega),if_pos g0]; rfl
  by_cases g1:x.Offsets.length>6
  ·rw [if_neg (by omega),if_pos (by omega),if_neg g0,if_pos g1]; rfl
  rw [if_neg (by omega),if_neg (by omega),if_neg g0,if_neg g1]; rfl
 ·simp only [HL,JY,d3,d6,d1]
  rw [if_neg (by omega)]
theorem GxB {l:List Gj} (h:GJ Gsr 0 l=none):∀ x ∈ l,x.Down.length≤6∧x.Offsets.length≤6:=fun x hx=>by
 obtain ⟨i,hi⟩:=List.mem_iff_getElem?.1 hx
 have:=MI h i x hi
 simp only [Gsr] at this
 grind
def Gss (_:Nat) (x:Gd):Option Unit:=if x.Rates.length>40 then some () else if x.Bands.length>4 then some () else none
theorem GwX (c:Gh) (hs:Sm c.Tariffs):lp (HM c) 0=some (HQ (GJ Gss 0 c.Tariffs)):=by
 refine GP (fun k x hx=>?_) ?_
 ·obtain ⟨hk,i1,i2,hkl,h1,h2⟩:=rd hs hx
  simp only [HM,JZ,dA,eN,eM,hx,Hd,i1,if_true,hkl,Gss]
  by_cases g0:x.Rates.length>40
  ·rw [if_pos (by omega),if_pos g0]; rfl
  by_cases g1:x.Bands.length>4
  ·rw [if_neg (by omega),if_pos (by omega),if_neg g0,if_pos g1]; rfl
  rw [if_neg (by omega),if_neg (by omega),if_neg g0,if_neg g1]; rfl
 ·simp only [HM,JZ,d3,d6,d1]
  rw [if_neg (by omega)]
theorem GxC {l:List Gd} (h:GJ Gss 0 l=none):∀ x ∈ l,x.Rates.length≤40∧x.Bands.length≤4:=fun x hx=>by
 obtain ⟨i,hi⟩:=List.mem_iff_getElem?.1 hx
 have:=MI h i x hi
 simp only [Gss] at this
 grind
def Gst (_:Nat) (x:Gg):Option Unit:=if x.Hours.length>4 then some () else if x.Steps.length>4 then some () else none
theorem GwY (c:Gh) (hs:Sm c.Zones):lp (HN c) 0=some (HQ (GJ Gst 0 c.Zones)):=by
 refine GP (fun k x hx=>?_) ?_
 ·obtain ⟨hk,i1,i2,hkl,h1,h2⟩:=rd hs hx
  simp only [HN,J0,dA,eN,eM,hx,Hd,i1,if_true,hkl,Gst]
  by_cases g0:x.Hours.length>4
  ·rw [if_pos (by omega),if_pos g0]; rfl
  by_cases g1:x.Steps.length>4
  ·rw [if_neg (by omega),if_pos (by omega),if_neg g0,if_pos g1]; rfl
  rw [if_neg (by omega),if_neg (by omega),if_neg g0,if_neg g1]; rfl
 ·simp only [HN,J0,d3,d6,d1]
  rw [if_neg (by omega)]
theorem GxD {l:List Gg} (h:GJ Gst 0 l=none):∀ x ∈ l,x.Hours.length≤4∧x.Steps.length≤4:=fun x hx=>by
 obtain ⟨i,hi⟩:=List.mem_iff_getElem?.1 hx
 have:=MI h i x hi
 simp only [Gst] at this
 grind
def Gsu (_:Nat) (x:Gw):Option Unit:=if x.Plates.length>4 then some () else if x.Hours.length>4 then some () else none
theorem GwZ (c:Gh) (hs:Sm c.Permits):lp (HO c) 0=some (HQ (GJ Gsu 0 c.Permits)):=by
 refine GP (fun k x hx=>?_) ?_
 ·obtain ⟨hk,i1,i2,hkl,h1,h2⟩:=rd hs hx
  simp only [HO,J1,dA,eN,eM,hx,Hd,i1,if_true,hkl,Gsu]
  by_cases g0:x.Plates.length>4
  ·rw [if_pos (by omega),if_pos g0]; rfl
  by_cases g1:x.Hours.length>4
  ·rw [if_neg (by omega),if_pos (by omega),if_neg g0,if_pos g1]; rfl
  rw [if_neg (by omega),if_neg (by omega),if_neg g0,if_neg g1]; rfl
 ·simp only [HO,J1,d3,d6,d1]
  rw [if_neg (by omega)]
theorem GxE {l:List Gw} (h:GJ Gsu 0 l=none):∀ x ∈ l,x.Plates.length≤4∧x.Hours.length≤4:=fun x hx=>by
 obtain ⟨i,hi⟩:=List.mem_iff_getElem?.1 hx
 have:=MI h i x hi
 simp only [Gsu] at this
 grind
def Gsv (_:Nat) (x:Gc):Option Unit:=if x.Owned.length>4 then some () else none
theorem Gw0 (c:Gh) (hs:Sm c.Accounts):lp (HP c) 0=some (HQ (GJ Gsv 0 c.Accounts)):=by
 refine GP (fun k x hx=>?_) ?_
 ·obtain ⟨hk,i1,i2,hkl,h1,h2⟩:=rd hs hx
  simp only [HP,J2,dA,eN,eM,hx,Hd,i1,if_true,hkl,Gsv]
  by_cases g0:x.Owned.length>4
  ·rw [if_pos (by omega),if_pos g0]; rfl
  rw [if_neg (by omega),if_neg g0]; rfl
 ·simp only [HP,J2,d3,d6,d1]
  rw [if_neg (by omega)]
theorem GxF {l:List Gc} (h:GJ Gsv 0 l=none):∀ x ∈ l,x.Owned.length≤4:=fun x hx=>by
 obtain ⟨i,hi⟩:=List.mem_iff_getElem?.1 hx
 have:=MI h i x hi
 simp only [Gsv] at this
 grind
structure Goc (c:Gh):Prop where
 b0:c.Top.Net.Points.length≤8
 b1:c.Top.Net.Links.length≤16
 b2:c.Top.Systems.length≤4
 b3:c.Devices.length≤24
 b4:c.Classes.length≤9
 b5:c.Tags.length≤8
 b6:c.Tariffs.length≤3
 b7:c.Zones.length≤3
 b8:c.Permits.length≤4
 b9:c.Accounts.length≤4
 b10:c.Reliefs.length≤4
 b11:c.Holidays.length≤20
 b12:c.Keeping.length≤8
 l14:∀ x ∈ c.Devices,x.Down.length≤6∧x.Offsets.length≤6
 l27:∀ x ∈ c.Tariffs,x.Rates.length≤40∧x.Bands.length≤4
 l40:∀ x ∈ c.Zones,x.Hours.length≤4∧x.Steps.length≤4
 l53:∀ x ∈ c.Permits,x.Plates.length≤4∧x.Hours.length≤4
 l66:∀ x ∈ c.Accounts,x.Owned.length≤4
 ok:Mv (GpH c)=0
 cs:Gsa c
theorem Gys (c:Gh) (hd:∀ x ∈ c.Devices,Guh x) (hp:∀ p ∈ c.Permits,∀ x ∈ p.Plates,Ls x) (ha:∀ a ∈ c.Accounts,GpF a) (hc:Sm c.Caps):∃ b,Qk c=some b∧(b=true→Goc c):=by
 simp only [Qk,Rx,dA]
 by_cases h0:(c.Top.Net.Points.length:Int)>8
 ·rw [if_pos h0]; exact ⟨false,rfl,nofun⟩
 rw [if_neg h0]
 by_cases h1:(c.Top.Net.Links.length:Int)>16
 ·rw [if_pos h1]; exact ⟨false,rfl,nofun⟩
 rw [if_neg h1]
 by_cases h2:(c.Top.Systems.length:Int)>4
 ·rw [if_pos h2]; exact ⟨false,rfl,nofun⟩
 rw [if_neg h2]
 by_cases h3:(c.Devices.length:Int)>24
 ·rw [if_pos h3]; exact ⟨false,rfl,nofun⟩
 rw [if_neg h3]
 by_cases h4:(c.Classes.length:Int)>9
 ·rw [if_pos h4]; exact ⟨false,rfl,nofun⟩
 rw [if_neg h4]
 by_cases h5:(c.Tags.length:Int)>8
 ·rw [if_pos h5]; exact ⟨false,rfl,nofun⟩
 rw [if_neg h5]
 by_cases h6:(c.Tariffs.length:Int)>3
 ·rw [if_pos h6]; exact ⟨false,rfl,nofun⟩
 rw [if_neg h6]
 by_cases h7:(c.Zones.length:Int)>3
 ·rw [if_pos h7]; exact ⟨false,rfl,nofun⟩
 rw [if_neg h7]
 by_cases h8:(c.Permits.length:Int)>4
 ·rw [if_pos h8]; exact ⟨false,rfl,nofun⟩
 rw [if_neg h8]
 by_cases h9:(c.Accounts.length:Int)>4
 ·rw [if_pos h9]; exact ⟨false,rfl,nofun⟩
 rw [if_neg h9]
 by_cases h10:(c.Reliefs.length:Int)>4
 ·rw [if_pos h10]; exact ⟨false,rfl,nofun⟩
 rw [if_neg h10]
 by_cases h11:(c.Holidays.length:Int)>20
 ·rw [if_pos h11]; exact ⟨false,rfl,nofun⟩
 rw [if_neg h11]
 by_cases h12:(c.Keeping.length:Int)>8
 ·rw [if_pos h12]; exact ⟨false,rfl,nofun⟩
 rw [if_neg h12]
 rw [GwW c (by show _≤_; omega)]
 simp only [Hd]
 cases e14:GJ Gsr 0 c.Devices with
 | some r=>exact ⟨false,rfl,nofun⟩
 | none=>
 simp only [HQ,eM]
 rw [GwX c (by show _≤_; omega)]
 simp only [Hd]
 cases e27:GJ Gss 0 c.Tariffs with
 | some r=>exact ⟨false,rfl,nofun⟩
 | none=>
 simp only [HQ,eM]
 rw [GwY c (by show _≤_; omega)]
 simp only [Hd]
 cases e40:GJ Gst 0 c.Zones with
 | some r=>exact ⟨false,rfl,nofun⟩
 | none=>
 simp only [HQ,eM]
 rw [GwZ c (by show _≤_; omega)]
 simp only [Hd]
 cases e53:GJ Gsu 0 c.Permits with
 | some r=>exact ⟨false,rfl,nofun⟩
 | none=>
 simp only [HQ,eM]
 rw [Gw0 c (by show _≤_; omega)]
 simp only [Hd]
 cases e66:GJ Gsv 0 c.Accounts with
 | some r=>exact ⟨false,rfl,nofun⟩
 | none=>
 simp only [HQ,eM]
 have hS:Gsa c:={ pts:=by show _≤_; omega,devs:=hd,classes:=by show _≤_; omega,caps:=hc,zones:=by show _≤_; omega,permits:=by show _≤_; omega,plates:=hp,accs:=ha,hols:=by show _≤_; omega }
 rw [GbI c hS]
 exact ⟨_,rfl,fun h=>{ b0:=by omega,b1:=by omega,b2:=by omega,b3:=by omega,b4:=by omega,b5:=by omega,b6:=by omega,b7:=by omega,b8:=by omega,b9:=by omega,b10:=by omega,b11:=by omega,b12:=by omega,l14:=GxB e14,l27:=GxC e27,l40:=GxD e40,l53:=GxE e53,l66:=GxF e66,ok:=by simpa using h,cs:=hS }⟩
end
set_option maxHeartbeats 4000000
noncomputable section
theorem clF {T:Type} {L:Nat} {l:List T} (h:l.length≤L):G6 L l=some l:=if_pos (by omega)
theorem GoT {α:Type} {l:List α} {step:Nat×List α→Option ((Nat×List α)⊕List α)} (hs:∀ k x,l[k]?=some x→step (k,l.take k)=some (.inl (k+1,l.take k++[x]))) (he:step (l.length,l)=some (.inr l)):
  ∀ (m k:Nat),k+m=l.length→lp step (k,l.take k)=some l
 | 0,k,h=>by
  obtain rfl:k=l.length:=by omega
  rw [List.take_length]; exact Gbl he
 | m+1,k,h=>by
  have hlt:k<l.length:=by omega
  have h1:=hs k l[k] (List.getElem?_eq_getElem hlt)
  rw [GoW h1,show l.take k++[l[k]]=l.take (k+1) from List.take_append_getElem hlt]
  exact GoT hs he m (k+1) (by omega)
theorem Gy6 {α:Type} {l:List α} {step:Nat×List α→Option ((Nat×List α)⊕List α)} (hs:∀ k x,l[k]?=some x→step (k,l.take k)=some (.inl (k+1,l.take k++[x]))) (he:step (l.length,l)=some (.inr l)):lp step (0,[])=some l:=
 GoT hs he l.length 0 (by omega)
theorem Gt7 (x:Gj) (h:x.Down.length≤6∧x.Offsets.length≤6):HE x=some x:=by
 have f0:G6 8796093022000 x.Offsets=some x.Offsets:=clF (by omega)
 have f1:G6 8796093022000 x.Down=some x.Down:=clF (by omega)
 simp only [HE,MJ,d1,d4,d5,d6,Hd,f0,f1]
theorem Gt8 (x:Gd) (h:x.Rates.length≤40∧x.Bands.length≤4):HF x=some x:=by
 have f0:G6 4294967296 x.Bands=some x.Bands:=clF (by omega)
 have f1:G6 4294967296 x.Rates=some x.Rates:=clF (by omega)
 simp only [HF,MK,d1,d4,d5,d6,Hd,f0,f1]
theorem Gt9 (x:Gg) (h:x.Hours.length≤4∧x.Steps.length≤4):HG x=some x:=by
 have f0:G6 4294967296 x.Hours=some x.Hours:=clF (by omega)
 have f1:G6 4294967296 x.Steps=some x.Steps:=clF (by omega)
 simp only [HG,ML,d1,d4,d5,d6,Hd,f0,f1]
theorem Gua (x:Gw) (h:x.Plates.length≤4∧x.Hours.length≤4):HH x=some x:=by
 have f0:G6 8796093022000 x.Plates=some x.Plates:=clF (by omega)
 have f1:G6 4294967296 x.Hours=some x.Hours:=clF (by omega)
 simp only [HH,MM,d1,d4,d5,d6,Hd,f0,f1]
theorem Gub (x:Gc) (h:x.Owned.length≤4):HI x=some x:=by
 have f0:G6 4294967296 x.Owned=some x.Owned:=clF (by omega)
 simp only [HI,MN,d1,d4,d5,d6,Hd,f0]
theorem Ggp {T:Type} {C:T→Option T} {l:List T} (hl:l.length≤1000) (h:∀ x ∈ l,C x=some x):YT C l=some l:=by
 refine Gy6 (fun k x hx=>?_) ?_
 ·obtain ⟨hk,i1,i2,hkl,h1,h2⟩:=rd (l:=l) (by show _≤_; omega) hx
  have hb:(l.take k).length+1≤4294967296:=by rw [List.length_take]; omega
  simp only [eaS,hx,Hd,h x (List.mem_of_getElem? hx),hkl,hb,i1,if_true]
 ·simp only [eaS]
  rw [if_neg (by omega)]
theorem GsT:∀ {l:List Int},Mv l=0→∀ x ∈ l,x=0
 | [],_,x,hx=>by cases hx
 | y::l,h,x,hx=>by
  rw [K2] at h
  by_cases hy:y=0
  ·rw [if_pos hy] at h
   rcases List.mem_cons.1 hx with rfl | hx
   ·exact hy
   ·exact GsT h x hx
  ·rw [if_neg hy] at h; exact absurd h hy
theorem GxJ (c:Gh) (h:Mv (GpH c)=0):c.Scale.Up.length≤8∧c.Scale.Down.length≤8∧c.Scale.Parts.length≤9∧c.Discounts.length≤12∧c.Caps.length≤12∧c.Law.Days.length=4∧c.Law.Fees.length=4:=by
 have hm:=GsT h
 have h1:GpU c.Scale=0:=hm _ (by simp [GpH])
 have h2:whE (decide (c.Discounts.length>12)) 3=0:=hm _ (by simp [GpH])
 have h3:whE (decide (c.Caps.length>12)) 3=0:=hm _ (by simp [GpH])
 have h4:GoS c.Law=0:=hm _ (by simp [GpH])
 have a1:c.Scale.Up.length≤8∧c.Scale.Down.length=c.Scale.Up.length∧c.Scale.Parts.length=c.Scale.Up.length+1:=by
  unfold GpU at h1
  by_cases g:c.Scale.Up.length>8
  ·rw [if_pos g] at h1; cases h1
  rw [if_neg g] at h1
  by_cases g2:c.Scale.Period<1∨c.Scale.Period>86400∨c.Scale.Down.length≠c.Scale.Up.length∨c.Scale.Parts.length≠c.Scale.Up.length+1
  ·rw [if_pos g2] at h1; cases h1
  omega
 have a2:c.Discounts.length≤12:=by
  by_cases g:c.Discounts.length>12
  ·simp [whE,g] at h2
  ·omega
 have a3:c.Caps.length≤12:=by
  by_cases g:c.Caps.length>12
  ·simp [whE,g] at h3
  ·omega
 have a4:c.Law.Days.length=4∧c.Law.Fees.length=4:=by
  unfold GoS at h4
  by_cases g:c.Law.Days.length≠4∨c.Law.Fees.length≠4
  ·rw [if_pos g] at h4; cases h4
  omega
 omega
theorem GxL (c:Gh) (h:Goc c):M7 c=some c:=by
 obtain ⟨q1,q2,q3,q4,q5,q6,q7⟩:=GxJ c h.ok
 have b0:=h.b0
 have b1:=h.b1
 have b2:=h.b2
 have b4:=h.b4
 have b5:=h.b5
 have b10:=h.b10
 have b11:=h.b11
 have b12:=h.b12
 have f0:G6 4294967296 c.Top.Net.Points=some c.Top.Net.Points:=clF (by omega)
 have f1:G6 4294967296 c.Top.Net.Links=some c.Top.Net.Links:=clF (by omega)
 have f2:G6 4294967296 c.Top.Systems=some c.Top.Systems:=clF (by omega)
 have f3:G6 4294967296 c.Classes=some c.Classes:=clF (by omega)
 have f4:G6 4294967296 c.Tags=some c.Tags:=clF (by omega)
 have f5:G6 8796093022000 c.Scale.Up=some c.Scale.Up:=clF (by omega)
 have f6:G6 8796093022000 c.Scale.Down=some c.Scale.Down:=clF (by omega)
 have f7:G6 8796093022000 c.Scale.Parts=some c.Scale.Parts:=clF (by omega)
 have f8:G6 4294967296 c.Discounts=some c.Discounts:=clF (by omega)
 have f9:G6 4294967296 c.Caps=some c.Caps:=clF (by omega)
 have f10:G6 8796093022000 c.Reliefs=some c.Reliefs:=clF (by omega)
 have f11:G6 8796093022000 c.Holidays=some c.Holidays:=clF (by omega)
 have f12:G6 8796093022000 c.Law.Days=some c.Law.Days:=clF (by omega)
 have f13:G6 8796093022000 c.Law.Fees=some c.Law.Fees:=clF (by omega)
 have f14:G6 4294967296 c.Keeping=some c.Keeping:=clF (by omega)
 have e1:YT HE c.Devices=some c.Devices:=Ggp (Nat.le_trans h.b3 (by decide)) fun x hx=>Gt7 x (h.l14 x hx)
 have e2:YT HF c.Tariffs=some c.Tariffs:=Ggp (Nat.le_trans h.b6 (by decide)) fun x hx=>Gt8 x (h.l27 x hx)
 have e3:YT HG c.Zones=some c.Zones:=Ggp (Nat.le_trans h.b7 (by decide)) fun x hx=>Gt9 x (h.l40 x hx)
 have e4:YT HH c.Permits=some c.Permits:=Ggp (Nat.le_trans h.b8 (by decide)) fun x hx=>Gua x (h.l53 x hx)
 have e5:YT HI c.Accounts=some c.Accounts:=Ggp (Nat.le_trans h.b9 (by decide)) fun x hx=>Gub x (h.l66 x hx)
 simp only [M7,Rj,dA,e1,e2,e3,e4,e5,Hd,f0,f1,f2,f3,f4,f5,f6,f7,f8,f9,f10,f11,f12,f13,f14]
end
end Go.Proofs.YtdifanfcaemokaaGreatDoor.Av
